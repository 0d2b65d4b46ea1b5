/- Law 14, plain: one more told, by its place. Reference 14: Meets. Reference 13: Levels, a list of its own. match, plain: nodes counted by joined texts. Reference 14: Nodes. -/
import Derived.Test.YtoadlafdeoklbaaGreatDoorPa30
import Derived.Test.YtoadlafdeoklbaaGreatDoorPa50
import Derived.Test.YtoadlafdeoklbaaGreatDoorPa37
import Derived.Test.YtoadlafdeoklbaaGreatDoorPa39
import Derived.Test.YtoadlafdeoklbaaGreatDoorPa29
import Derived.Test.YtoadlafdeoklbaaGreatDoorPa21
import Derived.Test.YtoadlafdeoklbaaGreatDoorPa5
import Derived.Test.YtoadlafdeoklbaaGreatDoorPa4

namespace Go.Proofs.YtoadlafdeoklbaaGreatDoor
open Go

theorem td_set:∀{O:List (List UInt8×Int)} {k:Nat} {c:List UInt8} (q:Int),(∀x∈O.take k,Op.bytesLess x.1 c=true)→(hk:k < O.length)→O[k].1=c→tdIns O c q=O.set k (c,max O[k].2 q)
 | (d,r)::O,0,c,q,_,_,h3=>by
  have h3:d=c:=h3;subst h3;unfold tdIns;rw[bl_irrefl,if_neg (by simp),if_pos rfl];rfl
 | (d,r)::O,k+1,c,q,h1,h2,h3=>by
  unfold tdIns;rw[if_pos (h1 (d,r) (by simp))];have h:=td_set (O:=O) (k:=k) (c:=c) q (fun x hx=>h1 x (by simp[hx])) (by simpa using h2) h3;rw[h];rfl
theorem td_put:∀{O:List (List UInt8×Int)} {k:Nat} {c:List UInt8} (q:Int),(∀x∈O.take k,Op.bytesLess x.1 c=true)→k≤O.length→(∀hk:k < O.length,Op.bytesLess O[k].1 c=false∧O[k].1≠c)→tdIns O c q=(O.take k++ [(c,q)])++O.drop k
 | [],0,_,_,_,_,_=>rfl
 | [],k+1,_,_,_,h,_=>by simp at h
 | (d,r)::O,0,c,q,_,_,h3=>by
  have h:=h3 (by simp);unfold tdIns;rw[if_neg (by rw[show Op.bytesLess d c=false from h.1];simp),if_neg (show¬d=c from h.2)];rfl
 | (d,r)::O,k+1,c,q,h1,h2,h3=>by
  unfold tdIns;rw[if_pos (h1 (d,r) (by simp))];have h:=td_put (O:=O) (k:=k) (c:=c) q (fun x hx=>h1 x (by simp[hx])) (by simpa using h2) (fun hk=>h3 (by simpa using hk));rw[h];rfl
theorem told_step {L:List Sb}{n:List UInt8}{i:Nat}(h:i < L.length):mtTold (L.take (i+1)) n=if tMeets L[i].f n=true then tdIns (mtTold (L.take i) n) L[i].c L[i].q else mtTold (L.take i) n:=by
 unfold mtTold mtMet;rw[List.take_succ_eq_append_getElem h,List.filter_append,List.foldl_append]
 by_cases hm:tMeets L[i].f n=true
 ·rw[if_pos hm,List.filter_cons,if_pos hm]
  rfl
 ·rw[if_neg hm,List.filter_cons,if_neg hm]
  rfl
theorem td_len:∀(o:List (List UInt8×Int)) (c:List UInt8) (q:Int),(tdIns o c q).length≤o.length+1
 | [],_,_=>by simp[tdIns]
 | (d,r)::o,c,q=>by
  have ih:=td_len o c q;unfold tdIns
  split
  ·simp only[List.length_cons]
   omega
  ·split
   ·simp
   ·simp only[List.length_cons]
    omega
theorem told_le {L:List Sb}{n:List UInt8}:∀i,i≤L.length→(mtTold (L.take i) n).length≤i
 | 0,_=>by simp[mtTold,mtMet]
 | i+1,h=>by
  have ih:=told_le (L:=L) (n:=n) i (by omega);rw[told_step (by omega)]
  split
  ·have:=td_len (mtTold (L.take i) n) L[i].c L[i].q
   omega
  ·omega
end Go.Proofs.YtoadlafdeoklbaaGreatDoor

namespace Go.Proofs.YtoadlafdeoklbaaGreatDoor
open Go.RowKit Go.Maps Go.Shelf

theorem own_someG {α:Type}{f:α→List Value}{w:World}{B:Nat}{e:TypeId}{k:Nat}{A:Option Addr}{c:Nat}{l:List α}(h:OwnN w B e k f (.slice A l.length c) l)(hl:0 < l.length):∃g,A=some ⟨g,0,none⟩:=by
 obtain⟨_,⟨_,h0⟩ | ⟨g,cap,cur,h2,_⟩⟩:=h
 ·omega
 ·injection h2 with e1
  exact⟨g,e1⟩
theorem set_same {X:Array Value}{i:Nat}{v:Value}(h:X[i]? =some v):X.setIfInBounds i v=X:=by
 apply Array.ext_getElem?;intro j;rw[Array.getElem?_setIfInBounds]
 split
 ·rename_i e
  subst e;rw[h];simp[(Array.getElem?_eq_some_iff.1 h).1]
 ·rfl
theorem storeAt_cells {P:Program}(w:World)(b o:Nat)(ty:TypeId)(v:Value)(ht:w.there b o v.cells.size)(hi:(P.info? ty).map (·.size)=some v.cells.size)(h1:v.cells.all (·.oneCell')=true):
  (Instr.storeAt ty (.pointer (some ⟨b,o,none⟩)) v).run P w= .ok () (w.setCells b o v.cells.toList):=
 run_storeAt_mid w b o ty v.cells ht hi h1
theorem wpList_store1 {P:Program}{ops:Array Oper}{Q:Exit→Act→World→Prop}{rest:List Oper}{op:Oper}{a:Act}{w:World}(hgd:op.guard=none)(t:TypeId)(x y:Operand)(b i:Nat)(v:Value)(hv:v.cells= #[v])(h1:v.oneCell' =true){T:TypeId}{X:Array Value}(ho:op.op= .store t x y)(hx:a.eval x= .pointer (some ⟨b,i,none⟩))(hy:a.eval y=v)(hi:(P.info? t).map (·.size)=some 1)(hr:Row w b T X)(hb:i < X.size)
  (h:∀w',Row w' b T (X.setIfInBounds i v)→Keeps w w' [b]→wpList P ops Q rest (a.put op.dst undef) w'):wpList P ops Q (op::rest) a w:=by
 refine wpList_plain hgd fun _ hK=> ?_
 have hrun:=storeAt_cells (P:=P) w b i t v (hr.there (by rw[hv];show i+1≤_;omega)) (by rw[hv];exact hi) (by rw[hv];simp[h1]);have h2:=hr.setCells v.cells.toList i;rw[hv]at hrun h2;unfold Oper.wp execOp;simp only[ho,hx,hy,Sem.run_bind,hrun,Result.andThen_ok,Sem.run_pure];exact hK _ _ (h _ h2 (Keeps.setCells _ _ _))
/-- Where the outer loop stands. -/
structure RmAt (w wr:World)(L:List Sb)(nm:List UInt8)(i:Nat)(v:Value):Prop where
 own:OwnN wr w.heap.size 42 2 tdC v (mtTold (L.take i) nm)
 k:Keeps w wr []
theorem elemTdS:Tryz.prog.underlying 37=some (.slice (Tryz.prog.elem 37)):=by kernel_rfl
theorem sizeTd:∀W,(sizeOf (Tryz.prog.elem 37)).run Tryz.prog W= .ok 2 W:=fun W=>by kernel_rfl
section
variable {e:Operand→Value} {o:Oper} {W:World} {x lo hi:Operand} {a:Option Addr} {len cap l:Nat} {kl:IntKind}
theorem tdSliceL (ho:o.op= .slice 37 x (some lo) none none)(hx:e x= .slice a len cap)(h1:e lo= .int kl (l:Nat))(hl:l≤len):
  (execOp e o).run Tryz.prog W= .ok (.value (.slice (if cap=l then a else a.map (·.add (l*2))) (len - l) (cap - l))) W:=by
 have hs:=run_slice_l (P:=Tryz.prog) W 37 a len cap elemTdS kl (l:Int) (by omega) (by omega);rw[←run_sliceAt_slice W _ _ _ _ _ elemTdS,sizeTd]at hs;unfold execOp;simp only[ho,hx,h1,Option.map_some,Option.map_none,Sem.run_bind,hs,Result.andThen_ok,Sem.run_pure,sliced,Int.toNat_natCast]
theorem tdSliceH (ho:o.op= .slice 37 x none (some hi) none)(hx:e x= .slice a len cap)(h1:e hi= .int kl (l:Nat))(hl:l≤cap):
  (execOp e o).run Tryz.prog W= .ok (.value (.slice a l cap)) W:=by
 have hs:=run_slice_h (P:=Tryz.prog) W 37 a len cap elemTdS kl (l:Int) (by omega) (by omega);rw[←run_sliceAt_slice W _ _ _ _ _ elemTdS,sizeTd]at hs;unfold execOp;simp only[ho,hx,h1,Option.map_some,Option.map_none,Sem.run_bind,hs,Result.andThen_ok,Sem.run_pure,sliced,Int.toNat_natCast]
 try simp
 try (intro _;cases a <;> simp[Addr.add])
end
theorem own_capG {α:Type}{f:α→List Value}{w:World}{B:Nat}{e:TypeId}{k:Nat}{A:Option Addr}{c:Nat}{l:List α}(h:OwnN w B e k f (.slice A l.length c) l):l.length≤c:=by
 obtain⟨_,⟨_,h0⟩ | ⟨g,cap,cur,h2,_,_,h5,_⟩⟩:=h
 ·omega
 ·injection h2 with _ _ e3
  omega
theorem ownN_low {α:Type}{f:α→List Value}{w:World}{B B' :Nat}{e:TypeId}{k:Nat}{v:Value}{l:List α}(h:OwnN w B e k f v l)(hb:B' ≤B):OwnN w B' e k f v l:=
 ⟨h.1,h.2.imp id fun⟨g,c,cur,h1,h2,h3⟩=>⟨g,c,cur,h1,Nat.le_trans hb h2,h3⟩⟩
set_option maxRecDepth 100000 in
set_option maxHeartbeats 8000000 in
theorem rfMeets_any (w:World)(A:Option Addr)(cap:Nat)(L:List Sb)(nm:List UInt8)(hl:ListAt w 25 3 sbC A L)(hok:∀x∈L,x.f≠ []∧x.f.length≤60000)(hle:L.length≤100000)(hn:nm.length≤60000)(hn0:nm≠ []):
  Calls Tryz.prog 57 #[.slice A L.length cap,.string ⟨nm.toArray⟩] w fun e w' =>∃v,e= .returned v∧OwnN w' w.heap.size 42 2 tdC v (mtTold L nm)∧Keeps w w' []:=by
 have HL:=zh hl;have HOK:=zh hok;have HLE:=zh hle;have HNM:=zh (And.intro hn hn0);obtain⟨NM,hNM⟩:∃S:ByteArray,(⟨nm.toArray⟩:ByteArray)=S:=⟨_,rfl⟩;have HNN:=zh hNM;rw[hNM];clear hl hok hle hn hn0 hNM
 go_enter Tryz.func57,Tryz.ntmps57
 go_wp2_with fail
 go_loopw [5,6] (fun v i wr=>∃j:Nat,j≤L.length∧i= .int .i64 j∧Hid (RmAt w wr L nm j v)) (fun _ i _=>L.length - (intOf i).toNat)
 case atStart=>exact⟨0,by omega,rfl,zh ⟨OwnN.nil _ _ _ _ _,Keeps.refl _ _⟩⟩
 case round=>
  obtain⟨i,hi,rfl,HR⟩:=hrel;have hle:=HLE.out
  by_cases hil:i < L.length
  ·obtain⟨b,o,rfl,_,_⟩:=HL.out.at_ hil
   have HTS:=zh (told_step (n:=nm) hil);have HOX:=zh (HOK.out _ (List.getElem_mem hil));have HTL:=zh (told_le (L:=L) (n:=nm) i hi);obtain⟨⟨xf,xc,xq⟩,hx⟩:∃x,L[i]=x:=⟨_,rfl⟩;have HCW:=zh (show∀W,Keeps w W []→∀k,k < 3→W.cell? ⟨b,o+i*3+k,none⟩=(sbC ⟨xf,xc,xq⟩)[k]? from fun W hk k hki=>by
    rw[←hx];obtain⟨b',o',e,_,hc'⟩:=(HL.out.keeps hk).at_ hil;injection e with e
    injection e with e1 e2
    subst e1 e2;exact hc' k hki)
   rw[hx]at HTS HOX;obtain⟨X,hX⟩:∃S:ByteArray,(⟨xf.toArray⟩:ByteArray)=S:=⟨_,rfl⟩;obtain⟨Y,hY⟩:∃S:ByteArray,(⟨xc.toArray⟩:ByteArray)=S:=⟨_,rfl⟩;have HXY:=zh (And.intro hX hY);have c0:=HCW.out wr HR.out.k 0 (by omega);simp only[sbC,zgz,Nat.add_zero,hX]at c0;have HME:=zh (rMeets_any wr xf nm HOX.out.2 HNM.out.1 HOX.out.1 HNM.out.2);rw[hX,HNN.out]at HME;obtain⟨O,hO⟩:∃O,mtTold (L.take i) nm=O:=⟨_,rfl⟩;have HOO:=zh (show OwnN wr w.heap.size 42 2 tdC u5 O from by rw[←hO];exact HR.out.own);have HKR:=zh HR.out.k;rw[hO]at HTS HTL;obtain⟨A1,n1,rfl⟩:=OwnN.slice HOO.out;clear hx hX hY hO HR
   cases hm:tMeets xf nm with
   | false=>
    simp only[hm]at HTS HME;clear hm
    go_wp2_with fail
    refine HME.out.mono ?_;rintro e w2 ⟨rfl,hk2⟩;have HNX:=zh (show RmAt w w2 L nm (i+1) (.slice A1 O.length n1)from⟨by rw[HTS.out,if_neg (by decide)];exact HOO.out.keeps hk2,HKR.out.then_ hk2⟩);clear hk2 HME c0
    go_wp2_with fail
    exact⟨⟨i+1,by omega,by go_num,HNX⟩,by simp[intOf];omega⟩
   | true=>
    simp only[hm,if_true]at HTS HME;clear hm
    go_wp2_with fail
    refine HME.out.mono ?_;rintro e w2 ⟨rfl,hk2⟩;have HO2:=zh (HOO.out.keeps hk2);have HK2:=zh (HKR.out.then_ hk2);have hol:O.length≤100000:=by have:=HTL.out;omega
    clear hk2 HME c0 HOO HKR
    go_wp2_with fail
    go_loopw [7] (fun vk wr' =>∃k:Nat,k≤O.length∧vk= .int .i64 k∧Hid ((∀y∈O.take k,Op.bytesLess y.1 xc=true)∧Keeps w2 wr' [])) (fun vk _=>O.length - (intOf vk).toNat)
    case atStart=>exact⟨0,by omega,by go_num,zh ⟨by simp,Keeps.refl _ _⟩⟩
    case round=>
     obtain⟨k,hk,rfl,HR⟩:=hrel
     by_cases hkl:k < O.length
     ·obtain⟨g,rfl⟩:=own_someG HO2.out (by omega)
      obtain⟨⟨tc,tq⟩,ht⟩:∃x,O[k]=x:=⟨_,rfl⟩;have HCT:=zh (show∀W,Keeps w2 W []→∀m,m < 2→W.cell? ⟨g,0+k*2+m,none⟩=(tdC (tc,tq))[m]? from fun W hk m hmi=>by
       rw[←ht];obtain⟨b',o',e,_,hc'⟩:=((HO2.out.keeps hk).at_ encTd).at_ hkl;injection e with e
       injection e with e1 e2
       subst e1 e2;exact hc' m hmi)
      have HTK:=zh (List.take_succ_eq_append_getElem hkl);have HTS2:=zh (fun h1 h2=>td_set (c:=xc) xq h1 hkl h2);have HTP:=zh (fun h1 h2=>td_put (c:=xc) xq h1 hk h2);rw[ht]at HTK HTS2;obtain⟨TC,hTC⟩:∃S:ByteArray,(⟨tc.toArray⟩:ByteArray)=S:=⟨_,rfl⟩;have HTC:=zh hTC;have HT:=zh ht;have HBL:=zh (show Op.bytesLess tc xc=Op.bytesLess TC.toList Y.toList from by rw[←hTC,←HXY.out.2,Lib.toList_data,Lib.toList_data]);have HBE:=zh (show(tc==xc)=(TC.toList==Y.toList)from by rw[←hTC,←HXY.out.2,Lib.toList_data,Lib.toList_data]);obtain⟨bl,hbl⟩:∃z,Op.bytesLess TC.toList Y.toList=z:=⟨_,rfl⟩;rw[hbl]at HBL;clear ht hTC;have N0:=fun(W' :World) (hW' :Keeps wr W' [])=>HCT.out W' ((HR.out.2).then_ hW') 0 (by omega)
      have N1:=fun(W' :World) (hW' :Keeps wr W' [])=>HCT.out W' ((HR.out.2).then_ hW') 1 (by omega)
      have M1:=fun(W' :World) (hW' :Keeps wr W' [])=>HCW.out W' ((HK2.out.then_ (HR.out.2)).then_ hW') 1 (by omega)
      have M2:=fun(W' :World) (hW' :Keeps wr W' [])=>HCW.out W' ((HK2.out.then_ (HR.out.2)).then_ hW') 2 (by omega)
      simp only[sbC,tdC,zgz,zgs,Nat.add_zero,HXY.out.1,HXY.out.2,HTC.out]at N0 N1 M1 M2
      go_upto_region 7 with fail
      have LV:LightV ([]:List Iv) KeepsAll (fun _=>KeepsAll):= .all keepsAll_ok keepsAll_ok;refine wp_region_ivs [] KeepsAll (fun _=>KeepsAll) _ 17 LV (by kernel_rfl) rfl (by kernel_rfl) ?_;simp only[zts,ztz,zds,zdz];refine vq_is LV 0 (.int .i64 (k:Nat)) rfl ?_;simp only[addEnt];refine vq_is LV 1 (.slice (some ⟨g,0,none⟩) O.length n1) rfl ?_;simp only[addEnt];refine vq_is LV 2 (.int .i64 (O.length:Nat)) rfl ?_;simp only[addEnt];apply loosev_is 3 _ rfl
      ·intro W vals hW hkn
       clear hkn;have hC:=hW.c;refine⟨?_⟩;simp only[fill];go_simp
       first | exact⟨LV.stp (Keeps.refl _ _),rfl⟩ | exact⟨LV.stp (Keeps.alloc _ _),rfl⟩
      simp only[addEnt];refine vq_is LV 4 (.bool true) rfl ?_;simp only[addEnt];refine vq_is LV 5 (.slice (some ⟨g,0,none⟩) O.length n1) rfl ?_;simp only[addEnt];refine vq_is LV 6 (.int .i64 (k:Nat)) rfl ?_;simp only[addEnt];refine vq_index LV 7 37 (.tmp 27) (.tmp 28) g 0 (O.length) (n1) (k) 2 rfl (hkl) ?_;simp only[addEnt];refine vq_is LV 8 (.pointer (some ⟨g,0+k*2+0,none⟩)) rfl ?_;simp only[addEnt];refine vq_load LV 9 9 (.tmp 30) ⟨g,0+k*2+0,none⟩ (.string TC) rfl (fun W hW=>N0 W hW) ?_;simp only[addEnt];refine vq_is LV 10 (.slice (some ⟨b,o,none⟩) L.length cap) rfl ?_;simp only[addEnt];refine vq_is LV 11 (.int .i64 (i:Nat)) rfl ?_;simp only[addEnt];refine vq_index LV 12 22 (.tmp 32) (.tmp 33) b o (L.length) (cap) (i) 3 rfl (hil) ?_;simp only[addEnt];refine vq_is LV 13 (.pointer (some ⟨b,o+i*3+1,none⟩)) rfl ?_;simp only[addEnt];refine vq_load LV 14 9 (.tmp 35) ⟨b,o+i*3+1,none⟩ (.string Y) rfl (fun W hW=>M1 W hW) ?_;simp only[addEnt];apply loosev_is 15 _ rfl
      ·intro W vals hW hkn
       clear hkn;have hC:=hW.c;refine⟨?_⟩;simp only[fill];go_simp
       first | exact⟨LV.stp (Keeps.refl _ _),rfl⟩ | exact⟨LV.stp (Keeps.alloc _ _),rfl⟩
      simp only[addEnt];refine vq_is LV 16 (.bool bl) rfl ?_;simp only[addEnt];refine loosev_nil (fun W9 vals hW hkn=> ?_);simp only[knowsAllV]at hkn
      try simp only[and_true]at hkn
      simp only[fill,Act.put,zsa,zsc,zsz];have HKA:=zh (HR.out.2.then_ hW);clear hkn LV hW hbl N0 N1 M1 M2
      cases bl with
      | true=>
       go_wp2_with fail
       exact⟨⟨k+1,by omega,by go_num,zh ⟨fun y hy=>by
        rw[HTK.out]at hy
        rcases List.mem_append.1 hy with hy | hy
        ·exact HR.out.1 y hy
        ·rw[List.mem_singleton.1 hy]
         exact HBL.out,HKA.out⟩⟩,by simp[intOf];omega⟩
      | false=>
       have N0:=fun(W' :World) (hW' :Keeps W9 W' [])=>HCT.out W' ((HKA.out).then_ hW') 0 (by omega)
       have N1:=fun(W' :World) (hW' :Keeps W9 W' [])=>HCT.out W' ((HKA.out).then_ hW') 1 (by omega)
       have M1:=fun(W' :World) (hW' :Keeps W9 W' [])=>HCW.out W' ((HK2.out.then_ (HKA.out)).then_ hW') 1 (by omega)
       have M2:=fun(W' :World) (hW' :Keeps W9 W' [])=>HCW.out W' ((HK2.out.then_ (HKA.out)).then_ hW') 2 (by omega)
       simp only[sbC,tdC,zgz,zgs,Nat.add_zero,HXY.out.1,HXY.out.2,HTC.out]at N0 N1 M1 M2
       cases hbe:(TC.toList==Y.toList)with
       | true=>
        go_upto_region 9 with fail
        obtain⟨wA,hwA⟩:∃q,W9=q:=⟨_,rfl⟩;subst hwA;have LV:LightV ([]:List Iv) KeepsAll (fun _=>KeepsAll):= .all keepsAll_ok keepsAll_ok;refine wp_region_ivs [] KeepsAll (fun _=>KeepsAll) _ 17 LV (by kernel_rfl) rfl (by kernel_rfl) ?_;simp only[zts,ztz,zds,zdz];refine vq_is LV 0 (.int .i64 (k:Nat)) rfl ?_;simp only[addEnt];refine vq_is LV 1 (.slice (some ⟨g,0,none⟩) O.length n1) rfl ?_;simp only[addEnt];refine vq_is LV 2 (.int .i64 (O.length:Nat)) rfl ?_;simp only[addEnt];apply loosev_is 3 _ rfl
        ·intro W vals hW hkn
         clear hkn;have hC:=hW.c;refine⟨?_⟩;simp only[fill];go_simp
         first | exact⟨LV.stp (Keeps.refl _ _),rfl⟩ | exact⟨LV.stp (Keeps.alloc _ _),rfl⟩
        simp only[addEnt];refine vq_is LV 4 (.bool true) rfl ?_;simp only[addEnt];refine vq_is LV 5 (.slice (some ⟨g,0,none⟩) O.length n1) rfl ?_;simp only[addEnt];refine vq_is LV 6 (.int .i64 (k:Nat)) rfl ?_;simp only[addEnt];refine vq_index LV 7 37 (.tmp 46) (.tmp 47) g 0 (O.length) (n1) (k) 2 rfl (hkl) ?_;simp only[addEnt];refine vq_is LV 8 (.pointer (some ⟨g,0+k*2+0,none⟩)) rfl ?_;simp only[addEnt];refine vq_load LV 9 9 (.tmp 49) ⟨g,0+k*2+0,none⟩ (.string TC) rfl (fun W hW=>N0 W hW) ?_;simp only[addEnt];refine vq_is LV 10 (.slice (some ⟨b,o,none⟩) L.length cap) rfl ?_;simp only[addEnt];refine vq_is LV 11 (.int .i64 (i:Nat)) rfl ?_;simp only[addEnt];refine vq_index LV 12 22 (.tmp 51) (.tmp 52) b o (L.length) (cap) (i) 3 rfl (hil) ?_;simp only[addEnt];refine vq_is LV 13 (.pointer (some ⟨b,o+i*3+1,none⟩)) rfl ?_;simp only[addEnt];refine vq_load LV 14 9 (.tmp 54) ⟨b,o+i*3+1,none⟩ (.string Y) rfl (fun W hW=>M1 W hW) ?_;simp only[addEnt];apply loosev_is 15 _ rfl
        ·intro W vals hW hkn
         clear hkn;have hC:=hW.c;refine⟨?_⟩;simp only[fill];go_simp
         first | exact⟨LV.stp (Keeps.refl _ _),rfl⟩ | exact⟨LV.stp (Keeps.alloc _ _),rfl⟩
        simp only[addEnt];refine vq_is LV 16 (.bool true) rfl ?_;simp only[addEnt];refine loosev_nil (fun WB vals hW hkn=> ?_);simp only[knowsAllV]at hkn
        try simp only[and_true]at hkn
        simp only[fill,Act.put,zsa,zsc,zsz];have HKB:=zh (HKA.out.then_ hW);clear hkn LV hW N0 N1 M1 M2;have HTE:=zh (show tc=xc from by
         have h:=HBE.out;rw[hbe]at h;exact eq_of_beq h)
        clear hbe;have N0:=fun(W' :World) (hW' :Keeps WB W' [])=>HCT.out W' ((HKB.out).then_ hW') 0 (by omega)
        have N1:=fun(W' :World) (hW' :Keeps WB W' [])=>HCT.out W' ((HKB.out).then_ hW') 1 (by omega)
        have M1:=fun(W' :World) (hW' :Keeps WB W' [])=>HCW.out W' ((HK2.out.then_ (HKB.out)).then_ hW') 1 (by omega)
        have M2:=fun(W' :World) (hW' :Keeps WB W' [])=>HCW.out W' ((HK2.out.then_ (HKB.out)).then_ hW') 2 (by omega)
        simp only[sbC,tdC,zgz,zgs,Nat.add_zero,HXY.out.1,HXY.out.2,HTC.out]at N0 N1 M1 M2
        by_cases hq:tq < xq
        ·go_upto_region 10 with fail
         have LV:LightV ([]:List Iv) KeepsAll (fun _=>KeepsAll):= .all keepsAll_ok keepsAll_ok;refine wp_region_ivs [] KeepsAll (fun _=>KeepsAll) _ 11 LV (by kernel_rfl) rfl (by kernel_rfl) ?_;simp only[zts,ztz,zds,zdz];refine vq_is LV 0 (.slice (some ⟨b,o,none⟩) L.length cap) rfl ?_;simp only[addEnt];refine vq_is LV 1 (.int .i64 (i:Nat)) rfl ?_;simp only[addEnt];refine vq_index LV 2 22 (.tmp 58) (.tmp 59) b o (L.length) (cap) (i) 3 rfl (hil) ?_;simp only[addEnt];refine vq_is LV 3 (.pointer (some ⟨b,o+i*3+2,none⟩)) rfl ?_;simp only[addEnt];refine vq_load LV 4 3 (.tmp 61) ⟨b,o+i*3+2,none⟩ (.int .i64 xq) rfl (fun W hW=>M2 W hW) ?_;simp only[addEnt];refine vq_is LV 5 (.slice (some ⟨g,0,none⟩) O.length n1) rfl ?_;simp only[addEnt];refine vq_is LV 6 (.int .i64 (k:Nat)) rfl ?_;simp only[addEnt];refine vq_index LV 7 37 (.tmp 63) (.tmp 64) g 0 (O.length) (n1) (k) 2 rfl (hkl) ?_;simp only[addEnt];refine vq_is LV 8 (.pointer (some ⟨g,0+k*2+1,none⟩)) rfl ?_;simp only[addEnt];refine vq_load LV 9 3 (.tmp 66) ⟨g,0+k*2+1,none⟩ (.int .i64 tq) rfl (fun W hW=>N1 W hW) ?_;simp only[addEnt];apply loosev_is 10 _ rfl
         ·intro W vals hW hkn
          clear hkn;have hC:=hW.c;refine⟨?_⟩;simp only[fill];go_simp
          first | exact⟨LV.stp (Keeps.refl _ _),rfl⟩ | exact⟨LV.stp (Keeps.alloc _ _),rfl⟩
         simp only[addEnt];refine loosev_nil (fun WC vals hW hkn=> ?_);simp only[knowsAllV]at hkn
         try simp only[and_true]at hkn
         simp only[fill,Act.put,zsa,zsc,zsz];have HKC:=zh (HKB.out.then_ hW);clear hkn LV hW N0 N1 M1 M2;have N0:=fun(W' :World) (hW' :Keeps WC W' [])=>HCT.out W' ((HKC.out).then_ hW') 0 (by omega)
         have N1:=fun(W' :World) (hW' :Keeps WC W' [])=>HCT.out W' ((HKC.out).then_ hW') 1 (by omega)
         have M1:=fun(W' :World) (hW' :Keeps WC W' [])=>HCW.out W' ((HK2.out.then_ (HKC.out)).then_ hW') 1 (by omega)
         have M2:=fun(W' :World) (hW' :Keeps WC W' [])=>HCW.out W' ((HK2.out.then_ (HKC.out)).then_ hW') 2 (by omega)
         simp only[sbC,tdC,zgz,zgs,Nat.add_zero,HXY.out.1,HXY.out.2,HTC.out]at N0 N1 M1 M2;have n0:=N0 WC (Keeps.refl _ _);have m2:=M2 WC (Keeps.refl _ _);have HOC:=zh (HO2.out.keeps HKC.out);have HNM2:=zh (And.intro n0 m2);obtain⟨Z,hZ1,hZ2,hZ3,hZ4⟩:=HOC.out.put encTd (i:=k) hkl (tc,xq);have HZZ:=zh (And.intro hZ1 (And.intro hZ2 (And.intro hZ3 hZ4)));clear N0 N1 M1 M2 hZ1 hZ2 hZ3 hZ4 n0 m2
         go_upto_region 11 with fail
         refine wp_region_lit ?_;refine wpList_val (.slice (some ⟨g,0,none⟩) O.length n1) rfl (by kernel_rfl) ?_;refine wpList_val (.int .i64 (k:Nat)) rfl (by kernel_rfl) ?_;refine wpList_val (.slice (some ⟨b,o,none⟩) L.length cap) rfl (by kernel_rfl) ?_;refine wpList_val (.int .i64 (i:Nat)) rfl (by kernel_rfl) ?_;refine wpList_val (.pointer (some ⟨b,o+i*3,none⟩)) rfl (exec_at 22 (.tmp 71) (.tmp 72) b o L.length cap i 3 (o+i*3) hil rfl rfl (by kernel_rfl) (by kernel_rfl)) ?_;refine wpList_val (.pointer (some ⟨b,o+i*3+2,none⟩)) rfl (by kernel_rfl) ?_;refine wpList_loadc 3 (.tmp 74) ⟨b,o+i*3+2,none⟩ (.int .i64 xq) rfl rfl (by kernel_rfl) (fun _=>by kernel_rfl) HNM2.out.2 ?_;refine wpList_val (.pointer (some ⟨g,k*2,none⟩)) rfl (exec_at 37 (.tmp 69) (.tmp 70) g 0 O.length n1 k 2 (k*2) hkl (Nat.zero_add _) rfl (by kernel_rfl) (by kernel_rfl)) ?_;refine wpList_val (.pointer (some ⟨g,k*2+1,none⟩)) rfl (by kernel_rfl) ?_;refine wpList_store1 rfl 3 (.tmp 77) (.tmp 75) g (k*2+1) (.int .i64 xq) rfl rfl rfl (by kernel_rfl) (by kernel_rfl) (by kernel_rfl) HZZ.out.1 (by have:=HZZ.out.2.1;omega) ?_;intro wD hrD hkD;have HOD:=zh (show OwnN wD w.heap.size 42 2 tdC (.slice (some ⟨g,0,none⟩) O.length n1) (O.set k (tc,xq))from by
          refine HZZ.out.2.2.2 wD ?_;rw[show setFrom (tdC (tc,xq)) (k*2) Z=Z.setIfInBounds (k*2+1) (.int .i64 xq)from by
           have hz:=HNM2.out.1;rw[HZZ.out.1.cell,Nat.zero_add]at hz;rw[←HTC.out]at hz;simp only[tdC,setFrom];rw[set_same hz]]
          exact hrD)
         have HNX:=zh (show RmAt w wD L nm (i+1) (.slice (some ⟨g,0,none⟩) O.length n1)from⟨by
          rw[HTS.out,HTS2.out HR.out.1 HTE.out,show max tq xq=xq by omega,←HTE.out];exact HOD.out,(HK2.out.then_ HKC.out).trans hkD (fun y hy hlt=>by
           rw[List.mem_singleton.1 hy]at hlt;have:=HZZ.out.2.2.1;omega)⟩)
         clear hrD hkD;simp only[Act.put,zsa,zsc,zsz]
         go_wp2_with fail
         exact⟨⟨i+1,by omega,by go_num,HNX⟩,by simp[intOf];omega⟩
        ·go_upto_region 10 with fail
         have LV:LightV ([]:List Iv) KeepsAll (fun _=>KeepsAll):= .all keepsAll_ok keepsAll_ok;refine wp_region_ivs [] KeepsAll (fun _=>KeepsAll) _ 11 LV (by kernel_rfl) rfl (by kernel_rfl) ?_;simp only[zts,ztz,zds,zdz];refine vq_is LV 0 (.slice (some ⟨b,o,none⟩) L.length cap) rfl ?_;simp only[addEnt];refine vq_is LV 1 (.int .i64 (i:Nat)) rfl ?_;simp only[addEnt];refine vq_index LV 2 22 (.tmp 58) (.tmp 59) b o (L.length) (cap) (i) 3 rfl (hil) ?_;simp only[addEnt];refine vq_is LV 3 (.pointer (some ⟨b,o+i*3+2,none⟩)) rfl ?_;simp only[addEnt];refine vq_load LV 4 3 (.tmp 61) ⟨b,o+i*3+2,none⟩ (.int .i64 xq) rfl (fun W hW=>M2 W hW) ?_;simp only[addEnt];refine vq_is LV 5 (.slice (some ⟨g,0,none⟩) O.length n1) rfl ?_;simp only[addEnt];refine vq_is LV 6 (.int .i64 (k:Nat)) rfl ?_;simp only[addEnt];refine vq_index LV 7 37 (.tmp 63) (.tmp 64) g 0 (O.length) (n1) (k) 2 rfl (hkl) ?_;simp only[addEnt];refine vq_is LV 8 (.pointer (some ⟨g,0+k*2+1,none⟩)) rfl ?_;simp only[addEnt];refine vq_load LV 9 3 (.tmp 66) ⟨g,0+k*2+1,none⟩ (.int .i64 tq) rfl (fun W hW=>N1 W hW) ?_;simp only[addEnt];apply loosev_is 10 _ rfl
         ·intro W vals hW hkn
          clear hkn;have hC:=hW.c;refine⟨?_⟩;simp only[fill];go_simp
          first | exact⟨LV.stp (Keeps.refl _ _),rfl⟩ | exact⟨LV.stp (Keeps.alloc _ _),rfl⟩
         simp only[addEnt];refine loosev_nil (fun WC vals hW hkn=> ?_);simp only[knowsAllV]at hkn
         try simp only[and_true]at hkn
         simp only[fill,Act.put,zsa,zsc,zsz];have HKC:=zh (HKB.out.then_ hW);clear hkn LV hW N0 N1 M1 M2;have HNX:=zh (show RmAt w WC L nm (i+1) (.slice (some ⟨g,0,none⟩) O.length n1)from⟨by
          rw[HTS.out,HTS2.out HR.out.1 HTE.out,show max tq xq=tq by omega,←HTE.out,←HT.out,List.set_getElem_self];exact HO2.out.keeps HKC.out,HK2.out.then_ HKC.out⟩)
         go_wp2_with fail
         exact⟨⟨i+1,by omega,by go_num,HNX⟩,by simp[intOf];omega⟩
       | false=>
        have HINS:=zh (show tdIns O xc xq=(O.take k++ [(xc,xq)])++O.drop k from HTP.out HR.out.1 (fun _=>by
         rw[HT.out];refine⟨HBL.out,fun e=> ?_⟩;have h:=HBE.out;rw[hbe]at h;rw[show tc=xc from e]at h;simp at h))
        go_upto_region 9 with fail
        have LV:LightV ([]:List Iv) KeepsAll (fun _=>KeepsAll):= .all keepsAll_ok keepsAll_ok;refine wp_region_ivs [] KeepsAll (fun _=>KeepsAll) _ 17 LV (by kernel_rfl) rfl (by kernel_rfl) ?_;simp only[zts,ztz,zds,zdz];refine vq_is LV 0 (.int .i64 (k:Nat)) rfl ?_;simp only[addEnt];refine vq_is LV 1 (.slice (some ⟨g,0,none⟩) O.length n1) rfl ?_;simp only[addEnt];refine vq_is LV 2 (.int .i64 (O.length:Nat)) rfl ?_;simp only[addEnt];apply loosev_is 3 _ rfl
        ·intro W vals hW hkn
         clear hkn;have hC:=hW.c;refine⟨?_⟩;simp only[fill];go_simp
         first | exact⟨LV.stp (Keeps.refl _ _),rfl⟩ | exact⟨LV.stp (Keeps.alloc _ _),rfl⟩
        simp only[addEnt];refine vq_is LV 4 (.bool true) rfl ?_;simp only[addEnt];refine vq_is LV 5 (.slice (some ⟨g,0,none⟩) O.length n1) rfl ?_;simp only[addEnt];refine vq_is LV 6 (.int .i64 (k:Nat)) rfl ?_;simp only[addEnt];refine vq_index LV 7 37 (.tmp 46) (.tmp 47) g 0 (O.length) (n1) (k) 2 rfl (hkl) ?_;simp only[addEnt];refine vq_is LV 8 (.pointer (some ⟨g,0+k*2+0,none⟩)) rfl ?_;simp only[addEnt];refine vq_load LV 9 9 (.tmp 49) ⟨g,0+k*2+0,none⟩ (.string TC) rfl (fun W hW=>N0 W hW) ?_;simp only[addEnt];refine vq_is LV 10 (.slice (some ⟨b,o,none⟩) L.length cap) rfl ?_;simp only[addEnt];refine vq_is LV 11 (.int .i64 (i:Nat)) rfl ?_;simp only[addEnt];refine vq_index LV 12 22 (.tmp 51) (.tmp 52) b o (L.length) (cap) (i) 3 rfl (hil) ?_;simp only[addEnt];refine vq_is LV 13 (.pointer (some ⟨b,o+i*3+1,none⟩)) rfl ?_;simp only[addEnt];refine vq_load LV 14 9 (.tmp 54) ⟨b,o+i*3+1,none⟩ (.string Y) rfl (fun W hW=>M1 W hW) ?_;simp only[addEnt];apply loosev_is 15 _ rfl
        ·intro W vals hW hkn
         clear hkn;have hC:=hW.c;refine⟨?_⟩;simp only[fill];go_simp
         first | exact⟨LV.stp (Keeps.refl _ _),rfl⟩ | exact⟨LV.stp (Keeps.alloc _ _),rfl⟩
        simp only[addEnt];refine vq_is LV 16 (.bool false) rfl ?_;simp only[addEnt];refine loosev_nil (fun WB vals hW hkn=> ?_);simp only[knowsAllV]at hkn
        try simp only[and_true]at hkn
        simp only[fill,Act.put,zsa,zsc,zsz];have HKB:=zh (HKA.out.then_ hW);clear hkn LV hW N0 N1 M1 M2 hbe
        go_upto_region 12 with fail
        have HSZ:=zh (show(O.take k).length=k∧(O.drop k).length=O.length - k from⟨by rw[List.length_take];omega,by rw[List.length_drop]⟩);have HOB:=zh (HO2.out.keeps HKB.out);have HCP:=zh (own_capG HOB.out);have HLB:=zh (HOB.out.at_ encTd);have HKV:=zh (HK2.out.then_ HKB.out);obtain⟨A',hA'⟩:∃A' :Option Addr,(if n1=k then(some ⟨g,0,none⟩)else((some ⟨g,0,none⟩):Option Addr).map (·.add (k*2)))=A' :=⟨_,rfl⟩;have HA' :=zh hA';have HL1:=zh (show∀W,Keeps WB W []→ListAt W 42 2 tdC (some ⟨g,0,none⟩) (O.take k)from fun W hk=>(HLB.out.keeps hk).take k);have HL2:=zh (show∀W,Keeps WB W []→ListAt W 42 2 tdC A' (O.drop k)from fun W hk=>by
         rw[←HA'.out];exact listAt_drop (HLB.out.keeps hk) HCP.out)
        have M1:=fun(W' :World) (hW' :Keeps WB W' [])=>HCW.out W' (HKV.out.then_ hW') 1 (by omega)
        have M2:=fun(W' :World) (hW' :Keeps WB W' [])=>HCW.out W' (HKV.out.then_ hW') 2 (by omega)
        simp only[sbC,zgz,zgs,HXY.out.1,HXY.out.2]at M1 M2;have HMM:=zh (And.intro M1 M2);clear hA' M1 M2;have LI:LightV [⟨0, [], [16,20], [3,15], [16]⟩,⟨1, [16], [20], [16], [20]⟩,⟨2, [16,20], [], [20], []⟩] (fun W W' =>Keeps WB W []→Keeps WB W' []) (fun _=>KeepsAll):= .all (keepIfM_ok WB) keepsAll_ok;refine wp_region_ivs [⟨0, [], [16,20], [3,15], [16]⟩,⟨1, [16], [20], [16], [20]⟩,⟨2, [16,20], [], [20], []⟩] (fun W W' =>Keeps WB W []→Keeps WB W' []) (fun _=>KeepsAll) _ 21 LI (by kernel_rfl) rfl (by kernel_rfl) ?_;simp only[zts,ztz,zds,zdz];refine vq_is LI 0 (.slice (some ⟨g,0,none⟩) O.length n1) rfl ?_;simp only[addEnt];refine vq_is LI 1 (.int .i64 (k:Nat)) rfl ?_;simp only[addEnt];refine vq_is LI 2 (.slice (some ⟨g,0,none⟩) (O.take k).length n1) rfl ?_ (fun _=>by kernel_rfl) (fun W vals=>by rw[tdSliceH (x:= .tmp 78) (hi:= .tmp 79) (a:=(some ⟨g,0,none⟩)) (len:=O.length) (cap:=n1) (l:=k) (kl:= .i64) rfl (by kernel_rfl) (by kernel_rfl) (by have:=HCP.out;omega),HSZ.out.1]);simp only[addEnt];refine loosev_has 3 (fun v W' =>∃A c,v= .slice A (O.take k).length c∧OwnN W' WB.heap.size 42 2 tdC (.slice A (O.take k).length c) (O.take k)) rfl (fun W vals hW hkn φ' hφ=> ?_) ?_
        ·clear hkn
         exact opOk_append_N elemTd encTd rfl (Operand.const (.slice none 0 0)) (.tmp 80) rfl WB.heap.size (.slice none 0 0) (some ⟨g,0,none⟩) (O.take k).length n1 [] (O.take k) rfl (by kernel_rfl) (by kernel_rfl) (OwnN.nil _ _ _ _ _) ((HL1.out _ (hW.c (Keeps.refl _ _))).lies encTd) (by rw[HSZ.out.1];first | (simp;omega) | omega | simp) (hW.c (Keeps.refl _ _)).size (fun A' c' w' ho hk _=>⟨LI.stp hk,hφ.out _ _ ⟨A',c',rfl,ho⟩⟩)
        simp only[addEnt];refine vq_is LI 4 (.slice (some ⟨b,o,none⟩) L.length cap) rfl ?_;simp only[addEnt];refine vq_is LI 5 (.int .i64 (i:Nat)) rfl ?_;simp only[addEnt];refine vq_index LI 6 22 (.tmp 82) (.tmp 83) b o (L.length) (cap) (i) 3 rfl (hil) ?_;simp only[addEnt];refine vq_is LI 7 (.pointer (some ⟨b,o+i*3+1,none⟩)) rfl ?_;simp only[addEnt];refine vq_load LI 8 9 (.tmp 85) ⟨b,o+i*3+1,none⟩ (.string Y) rfl (fun W hW=>HMM.out.1 W (hW (Keeps.refl _ _))) ?_;simp only[addEnt];refine vq_is LI 9 (.slice (some ⟨b,o,none⟩) L.length cap) rfl ?_;simp only[addEnt];refine vq_is LI 10 (.int .i64 (i:Nat)) rfl ?_;simp only[addEnt];refine vq_index LI 11 22 (.tmp 87) (.tmp 88) b o (L.length) (cap) (i) 3 rfl (hil) ?_;simp only[addEnt];refine vq_is LI 12 (.pointer (some ⟨b,o+i*3+2,none⟩)) rfl ?_;simp only[addEnt];refine vq_load LI 13 3 (.tmp 90) ⟨b,o+i*3+2,none⟩ (.int .i64 xq) rfl (fun W hW=>HMM.out.2 W (hW (Keeps.refl _ _))) ?_;simp only[addEnt];refine vq_is LI 14 (.agg #[.string Y,.int .i64 xq]) rfl ?_;simp only[addEnt];refine loosev_has 15 (fun v W' =>∃g,v= .slice (some ⟨g,0,none⟩) 1 1∧Row W' g 42 #[.string Y,.int .i64 xq]) rfl (fun W vals hW hkn φ' hφ=> ?_) ?_
        ·have hC:=hW.c
         simp only[knowsV]at hkn
         try simp only[and_true]at hkn
         clear hkn;refine⟨?_⟩;simp only[fill];go_simp;exact⟨LI.stp (Keeps.alloc _ _),hφ.out _ _ ⟨_,rfl,Row.new _ _ _⟩⟩
        simp only[addEnt];refine loosev_has 16 (fun v W' =>∃A c,v= .slice A (O.take k++ [(xc,xq)]).length c∧OwnN W' WB.heap.size 42 2 tdC (.slice A (O.take k++ [(xc,xq)]).length c) (O.take k++ [(xc,xq)])) rfl (fun W vals hW hkn φ' hφ=> ?_) ?_
        ·simp only[knowsV]at hkn
         try simp only[and_true]at hkn
         obtain⟨k5,k3⟩:=hkn;obtain⟨W5,_,b1,gg,hv5,hr5⟩:=k5 (by decide);obtain⟨W4,_,a1,AA,cc,hv,how⟩:=k3 (by decide);have how:=how.keeps (a1.at_ ⟨0, [], [16,20], [3,15], [16]⟩);have hr5:=hr5.keeps (b1.at_ ⟨0, [], [16,20], [3,15], [16]⟩);have hls:Lies W W.heap.size (some ⟨gg,0,none⟩) ([(xc,xq)].flatMap tdC):=lies_of_row hr5 (by rw[←HXY.out.2];rfl);exact opOk_append_N elemTd encTd rfl (.tmp 81) (.tmp 93) rfl WB.heap.size (.slice AA (O.take k).length cc) (some ⟨gg,0,none⟩) 1 1 (O.take k) [(xc,xq)] rfl ((show _=vals 81 by kernel_rfl).trans hv) ((show _=vals 93 by kernel_rfl).trans hv5) how hls (by rw[HSZ.out.1];first | (simp;omega) | omega | simp) (hW.c (Keeps.refl _ _)).size (fun A'' c'' w' ho hk _=>⟨.off (fun hh=>hh.trans hk (fun y hy hlt=>by have:=(how.rows y hy).1;omega)),hφ.out _ _ ⟨A'',c'',rfl,ho⟩⟩)
        simp only[addEnt];refine vq_is LI 17 (.slice (some ⟨g,0,none⟩) O.length n1) rfl ?_;simp only[addEnt];refine vq_is LI 18 (.int .i64 (k:Nat)) rfl ?_;simp only[addEnt];refine vq_is LI 19 (.slice A' (O.drop k).length (n1 - k)) rfl ?_ (fun _=>by kernel_rfl) (fun W vals=>by rw[tdSliceL (x:= .tmp 95) (lo:= .tmp 96) (a:=(some ⟨g,0,none⟩)) (len:=O.length) (cap:=n1) (l:=k) (kl:= .i64) rfl (by kernel_rfl) (by kernel_rfl) hk,HA'.out,HSZ.out.2]);simp only[addEnt];refine loosev_has 20 (fun v W' =>∃A c,v= .slice A ((O.take k++ [(xc,xq)])++O.drop k).length c∧OwnN W' WB.heap.size 42 2 tdC (.slice A ((O.take k++ [(xc,xq)])++O.drop k).length c) ((O.take k++ [(xc,xq)])++O.drop k)) rfl (fun W vals hW hkn φ' hφ=> ?_) ?_
        ·simp only[knowsV]at hkn
         try simp only[and_true]at hkn
         obtain⟨W4,_,a1,AA,cc,hv,how⟩:=hkn.1 (by decide);have how:=how.keeps (a1.at_ ⟨1, [16], [20], [16], [20]⟩);exact opOk_append_N elemTd encTd rfl (.tmp 94) (.tmp 97) rfl WB.heap.size (.slice AA (O.take k++ [(xc,xq)]).length cc) A' (O.drop k).length (n1 - k) (O.take k++ [(xc,xq)]) (O.drop k) rfl ((show _=vals 94 by kernel_rfl).trans hv) (by kernel_rfl) how ((HL2.out _ (hW.c (Keeps.refl _ _))).lies encTd) (by rw[List.length_append,HSZ.out.1,HSZ.out.2];first | (simp;omega) | omega | simp) (hW.c (Keeps.refl _ _)).size (fun A'' c'' w' ho hk _=>⟨.off (fun hh=>hh.trans hk (fun y hy hlt=>by have:=(how.rows y hy).1;omega)),hφ.out _ _ ⟨A'',c'',rfl,ho⟩⟩)
        simp only[addEnt];refine loosev_nil (fun WZ vals hW hkn=> ?_);simp only[knowsAllV]at hkn
        try simp only[and_true]at hkn
        simp only[fill,Act.put,zsa,zsc,zsz];obtain⟨⟨_,_,a1,AL,cL,hv9,ho9⟩,hrest⟩:=hkn;have HKZ:=zh (hW (Keeps.refl _ _));have HNX:=zh (show RmAt w WZ L nm (i+1) (.slice AL ((O.take k++ [(xc,xq)])++O.drop k).length cL)from⟨by
         rw[HTS.out,HINS.out];exact ownN_low (ho9.keeps (a1.at_ ⟨2, [16,20], [], [20], []⟩)) HKV.out.size,HKV.out.then_ HKZ.out⟩)
        rw[hv9];clear a1 hv9 hrest hW LI ho9;obtain⟨nn,hnn⟩:∃n,((O.take k++ [(xc,xq)])++O.drop k).length=n:=⟨_,rfl⟩;rw[hnn]at HNX;rw[hnn];clear hnn
        go_wp2_with fail
        exact⟨⟨i+1,by omega,by go_num,HNX⟩,by simp[intOf];omega⟩
     ·obtain rfl:k=O.length:=by omega
      have HTA:=zh HR.out.1;have HINS:=zh (show tdIns O xc xq=(O.take O.length++ [(xc,xq)])++O.drop O.length from td_put xq HTA.out (Nat.le_refl _) (fun h=>by omega));have hk:O.length≤O.length:=Nat.le_refl _;have HKW0:=zh HR.out.2;have hkl2:¬((O.length:Int) < (O.length:Int)):=by omega
      go_upto_region 7 with fail
      have LV:LightV ([]:List Iv) KeepsAll (fun _=>KeepsAll):= .all keepsAll_ok keepsAll_ok;refine wp_region_ivs [] KeepsAll (fun _=>KeepsAll) _ 17 LV (by kernel_rfl) rfl (by kernel_rfl) ?_;simp only[zts,ztz,zds,zdz];refine vq_is LV 0 (.int .i64 (O.length:Nat)) rfl ?_;simp only[addEnt];refine vq_is LV 1 (.slice A1 O.length n1) rfl ?_;simp only[addEnt];refine vq_is LV 2 (.int .i64 (O.length:Nat)) rfl ?_;simp only[addEnt];apply loosev_is 3 _ rfl
      ·intro W vals hW hkn
       clear hkn;have hC:=hW.c;refine⟨?_⟩;simp only[fill];go_simp
       first | exact⟨LV.stp (Keeps.refl _ _),rfl⟩ | exact⟨LV.stp (Keeps.alloc _ _),rfl⟩
      simp only[addEnt];refine vq_is LV 4 (.bool false) rfl ?_;simp only[addEnt];refine vq_off LV 5 rfl ?_;simp only[addEnt];refine vq_off LV 6 rfl ?_;simp only[addEnt];refine vq_off LV 7 rfl ?_;simp only[addEnt];refine vq_off LV 8 rfl ?_;simp only[addEnt];refine vq_off LV 9 rfl ?_;simp only[addEnt];refine vq_off LV 10 rfl ?_;simp only[addEnt];refine vq_off LV 11 rfl ?_;simp only[addEnt];refine vq_off LV 12 rfl ?_;simp only[addEnt];refine vq_off LV 13 rfl ?_;simp only[addEnt];refine vq_off LV 14 rfl ?_;simp only[addEnt];refine vq_off LV 15 rfl ?_;simp only[addEnt];refine vq_is LV 16 (.bool false) rfl ?_;simp only[addEnt];refine loosev_nil (fun W9 vals hW hkn=> ?_);simp only[knowsAllV]at hkn
      try simp only[and_true]at hkn
      simp only[fill,Act.put,zsa,zsc,zsz];have HKA:=zh (HKW0.out.then_ hW);clear hkn LV hW
      go_upto_region 9 with fail
      have LV:LightV ([]:List Iv) KeepsAll (fun _=>KeepsAll):= .all keepsAll_ok keepsAll_ok;refine wp_region_ivs [] KeepsAll (fun _=>KeepsAll) _ 17 LV (by kernel_rfl) rfl (by kernel_rfl) ?_;simp only[zts,ztz,zds,zdz];refine vq_is LV 0 (.int .i64 (O.length:Nat)) rfl ?_;simp only[addEnt];refine vq_is LV 1 (.slice A1 O.length n1) rfl ?_;simp only[addEnt];refine vq_is LV 2 (.int .i64 (O.length:Nat)) rfl ?_;simp only[addEnt];apply loosev_is 3 _ rfl
      ·intro W vals hW hkn
       clear hkn;have hC:=hW.c;refine⟨?_⟩;simp only[fill];go_simp
       first | exact⟨LV.stp (Keeps.refl _ _),rfl⟩ | exact⟨LV.stp (Keeps.alloc _ _),rfl⟩
      simp only[addEnt];refine vq_is LV 4 (.bool false) rfl ?_;simp only[addEnt];refine vq_off LV 5 rfl ?_;simp only[addEnt];refine vq_off LV 6 rfl ?_;simp only[addEnt];refine vq_off LV 7 rfl ?_;simp only[addEnt];refine vq_off LV 8 rfl ?_;simp only[addEnt];refine vq_off LV 9 rfl ?_;simp only[addEnt];refine vq_off LV 10 rfl ?_;simp only[addEnt];refine vq_off LV 11 rfl ?_;simp only[addEnt];refine vq_off LV 12 rfl ?_;simp only[addEnt];refine vq_off LV 13 rfl ?_;simp only[addEnt];refine vq_off LV 14 rfl ?_;simp only[addEnt];refine vq_off LV 15 rfl ?_;simp only[addEnt];refine vq_is LV 16 (.bool false) rfl ?_;simp only[addEnt];refine loosev_nil (fun WB vals hW hkn=> ?_);simp only[knowsAllV]at hkn
      try simp only[and_true]at hkn
      simp only[fill,Act.put,zsa,zsc,zsz];have HKB:=zh (HKA.out.then_ hW);clear hkn LV hW HR
      go_upto_region 12 with fail
      have HSZ:=zh (show(O.take O.length).length=O.length∧(O.drop O.length).length=O.length - O.length from⟨by rw[List.length_take];omega,by rw[List.length_drop]⟩);have HOB:=zh (HO2.out.keeps HKB.out);have HCP:=zh (own_capG HOB.out);have HLB:=zh (HOB.out.at_ encTd);have HKV:=zh (HK2.out.then_ HKB.out);obtain⟨A',hA'⟩:∃A' :Option Addr,(if n1=O.length then A1 else(A1:Option Addr).map (·.add (O.length*2)))=A' :=⟨_,rfl⟩;have HA' :=zh hA';have HL1:=zh (show∀W,Keeps WB W []→ListAt W 42 2 tdC A1 (O.take O.length)from fun W hk=>(HLB.out.keeps hk).take O.length);have HL2:=zh (show∀W,Keeps WB W []→ListAt W 42 2 tdC A' (O.drop O.length)from fun W hk=>by
       rw[←HA'.out];exact listAt_drop (HLB.out.keeps hk) HCP.out)
      have M1:=fun(W' :World) (hW' :Keeps WB W' [])=>HCW.out W' (HKV.out.then_ hW') 1 (by omega)
      have M2:=fun(W' :World) (hW' :Keeps WB W' [])=>HCW.out W' (HKV.out.then_ hW') 2 (by omega)
      simp only[sbC,zgz,zgs,HXY.out.1,HXY.out.2]at M1 M2;have HMM:=zh (And.intro M1 M2);clear hA' M1 M2;have LI:LightV [⟨0, [], [16,20], [3,15], [16]⟩,⟨1, [16], [20], [16], [20]⟩,⟨2, [16,20], [], [20], []⟩] (fun W W' =>Keeps WB W []→Keeps WB W' []) (fun _=>KeepsAll):= .all (keepIfM_ok WB) keepsAll_ok;refine wp_region_ivs [⟨0, [], [16,20], [3,15], [16]⟩,⟨1, [16], [20], [16], [20]⟩,⟨2, [16,20], [], [20], []⟩] (fun W W' =>Keeps WB W []→Keeps WB W' []) (fun _=>KeepsAll) _ 21 LI (by kernel_rfl) rfl (by kernel_rfl) ?_;simp only[zts,ztz,zds,zdz];refine vq_is LI 0 (.slice A1 O.length n1) rfl ?_;simp only[addEnt];refine vq_is LI 1 (.int .i64 (O.length:Nat)) rfl ?_;simp only[addEnt];refine vq_is LI 2 (.slice A1 (O.take O.length).length n1) rfl ?_ (fun _=>by kernel_rfl) (fun W vals=>by rw[tdSliceH (x:= .tmp 78) (hi:= .tmp 79) (a:=A1) (len:=O.length) (cap:=n1) (l:=O.length) (kl:= .i64) rfl (by kernel_rfl) (by kernel_rfl) (by have:=HCP.out;omega),HSZ.out.1]);simp only[addEnt];refine loosev_has 3 (fun v W' =>∃A c,v= .slice A (O.take O.length).length c∧OwnN W' WB.heap.size 42 2 tdC (.slice A (O.take O.length).length c) (O.take O.length)) rfl (fun W vals hW hkn φ' hφ=> ?_) ?_
      ·clear hkn
       exact opOk_append_N elemTd encTd rfl (Operand.const (.slice none 0 0)) (.tmp 80) rfl WB.heap.size (.slice none 0 0) A1 (O.take O.length).length n1 [] (O.take O.length) rfl (by kernel_rfl) (by kernel_rfl) (OwnN.nil _ _ _ _ _) ((HL1.out _ (hW.c (Keeps.refl _ _))).lies encTd) (by rw[HSZ.out.1];first | (simp;omega) | omega | simp) (hW.c (Keeps.refl _ _)).size (fun A' c' w' ho hk _=>⟨LI.stp hk,hφ.out _ _ ⟨A',c',rfl,ho⟩⟩)
      simp only[addEnt];refine vq_is LI 4 (.slice (some ⟨b,o,none⟩) L.length cap) rfl ?_;simp only[addEnt];refine vq_is LI 5 (.int .i64 (i:Nat)) rfl ?_;simp only[addEnt];refine vq_index LI 6 22 (.tmp 82) (.tmp 83) b o (L.length) (cap) (i) 3 rfl (hil) ?_;simp only[addEnt];refine vq_is LI 7 (.pointer (some ⟨b,o+i*3+1,none⟩)) rfl ?_;simp only[addEnt];refine vq_load LI 8 9 (.tmp 85) ⟨b,o+i*3+1,none⟩ (.string Y) rfl (fun W hW=>HMM.out.1 W (hW (Keeps.refl _ _))) ?_;simp only[addEnt];refine vq_is LI 9 (.slice (some ⟨b,o,none⟩) L.length cap) rfl ?_;simp only[addEnt];refine vq_is LI 10 (.int .i64 (i:Nat)) rfl ?_;simp only[addEnt];refine vq_index LI 11 22 (.tmp 87) (.tmp 88) b o (L.length) (cap) (i) 3 rfl (hil) ?_;simp only[addEnt];refine vq_is LI 12 (.pointer (some ⟨b,o+i*3+2,none⟩)) rfl ?_;simp only[addEnt];refine vq_load LI 13 3 (.tmp 90) ⟨b,o+i*3+2,none⟩ (.int .i64 xq) rfl (fun W hW=>HMM.out.2 W (hW (Keeps.refl _ _))) ?_;simp only[addEnt];refine vq_is LI 14 (.agg #[.string Y,.int .i64 xq]) rfl ?_;simp only[addEnt];refine loosev_has 15 (fun v W' =>∃g,v= .slice (some ⟨g,0,none⟩) 1 1∧Row W' g 42 #[.string Y,.int .i64 xq]) rfl (fun W vals hW hkn φ' hφ=> ?_) ?_
      ·have hC:=hW.c
       simp only[knowsV]at hkn
       try simp only[and_true]at hkn
       clear hkn;refine⟨?_⟩;simp only[fill];go_simp;exact⟨LI.stp (Keeps.alloc _ _),hφ.out _ _ ⟨_,rfl,Row.new _ _ _⟩⟩
      simp only[addEnt];refine loosev_has 16 (fun v W' =>∃A c,v= .slice A (O.take O.length++ [(xc,xq)]).length c∧OwnN W' WB.heap.size 42 2 tdC (.slice A (O.take O.length++ [(xc,xq)]).length c) (O.take O.length++ [(xc,xq)])) rfl (fun W vals hW hkn φ' hφ=> ?_) ?_
      ·simp only[knowsV]at hkn
       try simp only[and_true]at hkn
       obtain⟨k5,k3⟩:=hkn;obtain⟨W5,_,b1,gg,hv5,hr5⟩:=k5 (by decide);obtain⟨W4,_,a1,AA,cc,hv,how⟩:=k3 (by decide);have how:=how.keeps (a1.at_ ⟨0, [], [16,20], [3,15], [16]⟩);have hr5:=hr5.keeps (b1.at_ ⟨0, [], [16,20], [3,15], [16]⟩);have hls:Lies W W.heap.size (some ⟨gg,0,none⟩) ([(xc,xq)].flatMap tdC):=lies_of_row hr5 (by rw[←HXY.out.2];rfl);exact opOk_append_N elemTd encTd rfl (.tmp 81) (.tmp 93) rfl WB.heap.size (.slice AA (O.take O.length).length cc) (some ⟨gg,0,none⟩) 1 1 (O.take O.length) [(xc,xq)] rfl ((show _=vals 81 by kernel_rfl).trans hv) ((show _=vals 93 by kernel_rfl).trans hv5) how hls (by rw[HSZ.out.1];first | (simp;omega) | omega | simp) (hW.c (Keeps.refl _ _)).size (fun A'' c'' w' ho hk _=>⟨.off (fun hh=>hh.trans hk (fun y hy hlt=>by have:=(how.rows y hy).1;omega)),hφ.out _ _ ⟨A'',c'',rfl,ho⟩⟩)
      simp only[addEnt];refine vq_is LI 17 (.slice A1 O.length n1) rfl ?_;simp only[addEnt];refine vq_is LI 18 (.int .i64 (O.length:Nat)) rfl ?_;simp only[addEnt];refine vq_is LI 19 (.slice A' (O.drop O.length).length (n1 - O.length)) rfl ?_ (fun _=>by kernel_rfl) (fun W vals=>by rw[tdSliceL (x:= .tmp 95) (lo:= .tmp 96) (a:=A1) (len:=O.length) (cap:=n1) (l:=O.length) (kl:= .i64) rfl (by kernel_rfl) (by kernel_rfl) hk,HA'.out,HSZ.out.2]);simp only[addEnt];refine loosev_has 20 (fun v W' =>∃A c,v= .slice A ((O.take O.length++ [(xc,xq)])++O.drop O.length).length c∧OwnN W' WB.heap.size 42 2 tdC (.slice A ((O.take O.length++ [(xc,xq)])++O.drop O.length).length c) ((O.take O.length++ [(xc,xq)])++O.drop O.length)) rfl (fun W vals hW hkn φ' hφ=> ?_) ?_
      ·simp only[knowsV]at hkn
       try simp only[and_true]at hkn
       obtain⟨W4,_,a1,AA,cc,hv,how⟩:=hkn.1 (by decide);have how:=how.keeps (a1.at_ ⟨1, [16], [20], [16], [20]⟩);exact opOk_append_N elemTd encTd rfl (.tmp 94) (.tmp 97) rfl WB.heap.size (.slice AA (O.take O.length++ [(xc,xq)]).length cc) A' (O.drop O.length).length (n1 - O.length) (O.take O.length++ [(xc,xq)]) (O.drop O.length) rfl ((show _=vals 94 by kernel_rfl).trans hv) (by kernel_rfl) how ((HL2.out _ (hW.c (Keeps.refl _ _))).lies encTd) (by rw[List.length_append,HSZ.out.1,HSZ.out.2];first | (simp;omega) | omega | simp) (hW.c (Keeps.refl _ _)).size (fun A'' c'' w' ho hk _=>⟨.off (fun hh=>hh.trans hk (fun y hy hlt=>by have:=(how.rows y hy).1;omega)),hφ.out _ _ ⟨A'',c'',rfl,ho⟩⟩)
      simp only[addEnt];refine loosev_nil (fun WZ vals hW hkn=> ?_);simp only[knowsAllV]at hkn
      try simp only[and_true]at hkn
      simp only[fill,Act.put,zsa,zsc,zsz];obtain⟨⟨_,_,a1,AL,cL,hv9,ho9⟩,hrest⟩:=hkn;have HKZ:=zh (hW (Keeps.refl _ _));have HNX:=zh (show RmAt w WZ L nm (i+1) (.slice AL ((O.take O.length++ [(xc,xq)])++O.drop O.length).length cL)from⟨by
       rw[HTS.out,HINS.out];exact ownN_low (ho9.keeps (a1.at_ ⟨2, [16,20], [], [20], []⟩)) HKV.out.size,HKV.out.then_ HKZ.out⟩)
      rw[hv9];clear a1 hv9 hrest hW LI ho9;obtain⟨nn,hnn⟩:∃n,((O.take O.length++ [(xc,xq)])++O.drop O.length).length=n:=⟨_,rfl⟩;rw[hnn]at HNX;rw[hnn];clear hnn
      go_wp2_with fail
      exact⟨⟨i+1,by omega,by go_num,HNX⟩,by simp[intOf];omega⟩
  ·obtain rfl:i=L.length:=by omega
   go_wp2_with fail
   go_ret;exact⟨_,rfl,by have h:=HR.out.own;rwa [List.take_length]at h,HR.out.k⟩
end Go.Proofs.YtoadlafdeoklbaaGreatDoor

namespace Go.Proofs.YtoadlafdeoklbaaGreatDoor
open Go.RowKit Go.Shelf

def LvoPost (w:World)(s:List UInt8)(e:Ending)(w' :World):Prop:=∃A c,e= .returned (.slice A (tLev s).length c)∧OwnT w' w.heap.size (.slice A (tLev s).length c) (tLev s)∧Keeps w w' []
set_option maxRecDepth 100000 in
set_option maxHeartbeats 2000000 in
theorem rLevelsO_any (w:World)(s:List UInt8)(hs:s.length≤60000):Calls Tryz.prog 47 #[.string ⟨s.toArray⟩] w (LvoPost w s):=by
 obtain⟨S,hS⟩:∃S:ByteArray,(⟨s.toArray⟩:ByteArray)=S:=⟨_,rfl⟩;have hz:S.size=s.length:=by rw[←hS];rfl
 have HS:=zh hS;rw[hS];clear hS
 go_enter Tryz.func47,Tryz.ntmps47
 go_wp2_with fail
 go_loopw [3,4] (fun out i wr=>∃(k m c:Nat) (A:Option Addr) (l:List (List UInt8)),k≤s.length∧i= .int .i64 k∧out= .slice A (m+1) c∧m≤k∧Hid (LvAt w wr (s.take k) (.slice A (m+1) c) l)) (fun _ i _=>s.length - (intOf i).toNat)
 case atStart=>exact⟨0,0,1,_, [[]],by omega,rfl,rfl,by omega,zh ⟨rfl,ownT_one w [],Keeps.alloc _ _⟩⟩
 case round=>
  obtain⟨k,m,c,A,l,hk,rfl,rfl,hmk,HR⟩:=hrel
  by_cases hlt:k < s.length
  ·have HT:=zh (List.take_succ_eq_append_getElem hlt)
   have ix:∀h,S[k]'h=s[k]:=fun h=>str_get HS.out hlt h
   obtain⟨a,ha⟩:∃a,s[k]=a:=⟨_,rfl⟩;rw[ha]at HT ix;have hcut:S.extract k (k+1)=⟨[a].toArray⟩:=by
    rw[←HS.out,str_cut,Nat.add_sub_cancel_left,List.drop_eq_getElem_cons hlt,ha];rfl
   by_cases h47:a=47
   ·subst h47
    have HL:=zh (show tLev (s.take (k+1))=l++ [[]]by rw[HT.out,tLev_slash,HR.out.e]);obtain⟨Wa,hWa⟩:∃Wa,wr.alloc (.cells #[.string ⟨#[]⟩] 9)=Wa:=⟨_,rfl⟩;have ra:Row Wa wr.heap.size 9 #[.string ⟨#[]⟩]:=by rw[←hWa];exact Row.new _ _ _
    have ka:Keeps wr Wa []:=by rw[←hWa];exact Keeps.alloc _ _
    have hln:m+1=l.length:=HR.out.o.lies1.1;have HLa:=zh (show Lies Wa Wa.heap.size (some ⟨wr.heap.size,0,none⟩) ([([]:List UInt8)].flatMap txtV)from lies_of_row ra rfl);have HA:=zh (And.intro ka (And.intro (HR.out.o.keeps ka) (And.intro (HR.out.k.then_ ka) hln)));clear ra ka hcut ha hln
    go_wp2_with (at_builtin;refine wpList_append_N elemTxt encTxt rfl (.tmp 16) (.tmp 17) rfl w.heap.size (.slice A (m+1) c) (some ⟨wr.heap.size,0,none⟩) 1 1 l [[]] rfl rfl rfl HA.out.2.1 HLa.out (by have:=HA.out.2.2.2;simp;omega) HA.out.2.2.1.size ?_;intro A5 c5 w5 l5 hl5 hlen5 ho5 hk5 _;have H5:=zh (And.intro hl5.out (And.intro ho5 hk5));have hl5n:l5.length=m+2:=(by have:=HA.out.2.2.2;rw[hl5.out,List.length_append,List.length_singleton];omega);rw[hl5n];clear hl5 ho5 hk5 hlen5)
    have ho:=H5.out.2.1;rw[hl5n,H5.out.1]at ho;exact⟨⟨k+1,m+1,c5,A5,l++ [[]],by omega,by go_num,rfl,by omega,zh ⟨HL.out,ho,HA.out.2.2.1.trans H5.out.2.2 fun x hx hlt=>by
     have:=(HA.out.2.1.rows x hx).1;omega⟩⟩,by simp[intOf];omega⟩
   ·have hb:(((a.toNat:Int))==47)=false:=by
     rw[beq_eq_false_iff_ne];intro h;exact h47 (UInt8.toNat_inj.1 (by simpa using (show a.toNat=47 by omega)))
    have hln:m+1=l.length:=HR.out.o.lies1.1;have hml:m < l.length:=by omega
    have HL:=zh (show tLev (s.take (k+1))=l.set m (l[m]++ [a])by
     rw[HT.out];exact tLev_set h47 HR.out.e hln.symm hml)
    obtain⟨g,cur,rfl,-,hgB,hr,hc,-⟩:=OwnN.one (q:=fun a=> .string ⟨a.toArray⟩) (fun _=>rfl) HR.out.o hml;obtain⟨X,hX⟩:∃X,l[m]=X:=⟨_,rfl⟩;rw[hX]at hc HL;have hXl:X.length≤60000:=by
     have h1:X∈tLev (s.take k):=by rw[HR.out.e,←hX];exact List.getElem_mem hml
     have:=tLev_size h1;rw[List.length_take]at this;omega
    obtain⟨LS,hLS⟩:∃LS:ByteArray,(⟨X.toArray⟩:ByteArray)=LS:=⟨_,rfl⟩;have hLz:LS.size≤60000:=by rw[←hLS];exact hXl
    have hcat:LS++S.extract k (k+1)=⟨(X++ [a]).toArray⟩:=by rw[hcut,←hLS,txt_app]
    obtain⟨CS,hCS⟩:∃CS,S.extract k (k+1)=CS:=⟨_,rfl⟩;have hCz:CS.size=1:=by rw[←hCS,hcut];rfl
    rw[hCS]at hcat;rw[hLS]at hc;have M1:=fun(W' :World) (hW:Keeps wr W' [])=>((hr.keeps hW).cell m).trans hc
    have HG:=zh (And.intro hr (And.intro hgB (And.intro hcat (And.intro hml hln))));clear hr hgB hc hX hLS hcut hcat hXl hml hln
    go_upto_region 7 with fail
    have hw1:IntKind.i64.wrap (m:Int)=m:=IntWalk.i64_in _ (by omega);have hw2:IntKind.i64.wrap ((k:Int)+1)=k+1:=IntWalk.i64_in _ (by omega);have hw3:((k:Int)+1).toNat=k+1:=by omega
    have hw4:(k:Int)+1≤s.length:=by omega
    have hw5:(k:Int)≤k+1:=by omega
    have hw6:(0:Int)≤k+1:=by omega
    have hw7:(m:Int) < m+1:=by omega
    have hw8:¬9223372036854775807 < LS.size+1:=by omega
    refine wp_region_tail KeepsAll _ 16 (by kernel_rfl) rfl (by kernel_rfl) (fun _=>Keeps.refl _ _) (fun _ _ _ h k=>h.trans k (by simp)) (Keeps.drew _) ?_;simp only[zts,ztz,zds,zdz]
    iterate 9
     refine ls ?_;simp only[addEnt]
    apply loose_is
    ·intro W vals hW hkn
     simp only[knows]at hkn
     try simp only[and_true]at hkn
     clear hkn;have m1:=M1 W hW;refine⟨?_⟩;simp only[fill];go_simp
     first | exact⟨Keeps.refl _ _,rfl⟩ | exact⟨Keeps.alloc _ _,rfl⟩
    iterate 6
     simp only[addEnt];refine ls ?_
    simp only[addEnt];refine loose_nil (fun W vals hW hkn=> ?_);simp only[knowsAll]at hkn
    try simp only[and_true]at hkn
    simp only[fill,Act.put,zsa,zsc,zsz];clear hkn;have hr:=HG.out.1.keeps hW;have d0:=M1 W hW;have g0:=hr.frozen m;have HW:=zh (show Keeps wr W []from hW);clear hr hW M1
    go_wp2_with fail
    obtain⟨g',cur',e1,-,hgB,hr,hc,ho⟩:=OwnN.one (q:=fun a=> .string ⟨a.toArray⟩) (fun _=>rfl) (HR.out.o.keeps HW.out) HG.out.2.2.2.1;injection e1 with e1
    injection e1 with e1
    subst e1;have ho:=ho (X++ [a]);rw[←HG.out.2.2.1]at ho;exact⟨⟨k+1,m,c,_,_,by omega,by go_num,rfl,by omega,zh ⟨HL.out,ho,(HR.out.k.then_ HW.out).trans (Keeps.setCell _ _ _) fun x hx hlt=>by
     simp at hx;omega⟩⟩,by simp[intOf];omega⟩
  ·obtain rfl:k=s.length:=by omega
   have HE:=zh (show tLev s=l by rw[←HR.out.e,List.take_length])
   go_wp2_with fail
   go_ret;have:=HR.out.o.lies1;exact⟨A,c,by rw[HE.out,←this.1];rfl,by rw[HE.out,←this.1];exact HR.out.o,HR.out.k⟩
end Go.Proofs.YtoadlafdeoklbaaGreatDoor

namespace Go.Proofs.YtoadlafdeoklbaaGreatDoor

def jn (p:List (List UInt8)):List UInt8:=p.flatMap fun x=>47::x
def Sl (p:List (List UInt8)):Prop:=∀x∈p,(47:UInt8)∉x
theorem jn_app (p:List (List UInt8))(x:List UInt8):jn (p++ [x])=jn p++47::x:=by simp[jn]
theorem jn_lev:∀{n:Nat} {p:List (List UInt8)},p.length=n→Sl p→tLev (jn p)= []::p
 | 0,p,hn,_=>by
  rw[List.length_eq_zero_iff.1 hn];rfl
 | n+1,p,hn,h=>by
  have hp:p≠ []:=fun e=>by rw[e]at hn;cases hn
  obtain⟨q,x,rfl⟩:∃q x,p=q++ [x]:=⟨p.dropLast,p.getLast hp,(List.dropLast_concat_getLast hp).symm⟩;rw[jn_app,tLev_app,jn_lev (n:=n) (by simpa using hn) (fun y hy=>h y (by simp[hy])),tLev_plain (h x (by simp))];rfl
theorem jn_inj {p q:List (List UInt8)}(hp:Sl p)(hq:Sl q)(h:jn p=jn q):p=q:=by
 have h1:=jn_lev rfl hp;rw[h,jn_lev rfl hq]at h1;injection h1 with _ h1
 exact h1.symm
theorem sl_take (f:List UInt8)(k:Nat):Sl ((tLev f).take k):=fun _ hx=>tLev_47 (List.mem_of_mem_take hx)
theorem jn_take {f:List UInt8}{k:Nat}(hk:k < (tLev f).length):jn ((tLev f).take (k+1))=(jn ((tLev f).take k)++ [47])++(tLev f)[k]:=by
 rw[List.take_succ_eq_append_getElem hk,jn_app,List.append_assoc];rfl
theorem tjn_len:∀(f:List UInt8) (k:Nat),(jn ((tLev f).take k)).length≤f.length+1
 | [],k=>by
  cases k with
  | zero=>simp[jn]
  | succ k=>simp[tLev,jn]
 | a::f,k=>by
  cases k with
  | zero=>simp[jn]
  | succ k=>
   by_cases ha:a=47
   ·subst ha
    have h:=tjn_len f k;rw[tLev,if_pos rfl,zts];simp only[jn,List.flatMap_cons,List.length_append,List.length_cons,List.length_nil]at h ⊢
    omega
   ·obtain⟨l,ls,h1,h2⟩:=tLev_other (s:=f) ha
    have h:=tjn_len f (k+1);rw[h1,zts]at h;rw[h2,zts];simp only[jn,List.flatMap_cons,List.length_append,List.length_cons]at h ⊢
    omega
theorem seen_step {L:List Sb}{j:Nat}(hj:j < L.length):mtSeen (L.take (j+1))=(mtPres L[j].f).foldl mtSeenAdd (mtSeen (L.take j)):=by
 unfold mtSeen;rw[List.take_succ_eq_append_getElem hj,List.flatMap_append,List.foldl_append];simp
/-- The seen ones behind k beginnings more. -/
def ndK (K:List (List (List UInt8)))(f:List UInt8)(k:Nat):List (List (List UInt8)):=((mtPres f).take k).foldl mtSeenAdd K
theorem ndK_zero (K:List (List (List UInt8)))(f:List UInt8):ndK K f 0=K:=by simp[ndK]
theorem pres_len (f:List UInt8):(mtPres f).length=(tLev f).length:=by simp[mtPres]
theorem ndK_all (K:List (List (List UInt8)))(f:List UInt8):ndK K f (tLev f).length=(mtPres f).foldl mtSeenAdd K:=by
 unfold ndK;rw[←pres_len,List.take_length]
theorem ndK_succ (K:List (List (List UInt8))){f:List UInt8}{k:Nat}(hk:k < (tLev f).length):ndK K f (k+1)=mtSeenAdd (ndK K f k) ((tLev f).take (k+1)):=by
 unfold ndK;rw[List.take_succ_eq_append_getElem (by rw[pres_len];exact hk),List.foldl_append];simp[mtPres]
theorem add_sl {T:List (List (List UInt8))}{p:List (List UInt8)}(hT:∀q∈T,Sl q)(hp:Sl p):∀q∈mtSeenAdd T p,Sl q:=by
 unfold mtSeenAdd
 split
 ·exact hT
 ·intro q hq
  rcases List.mem_append.1 hq with h | h
  ·exact hT q h
  ·rw[List.mem_singleton.1 h]
   exact hp
theorem ndK_sl {K:List (List (List UInt8))}(hK:∀q∈K,Sl q)(f:List UInt8):∀k,k≤(tLev f).length→∀q∈ndK K f k,Sl q
 | 0,_=>by rw[ndK_zero];exact hK
 | k+1,h=>by rw[ndK_succ K (by omega)];exact add_sl (ndK_sl hK f k (by omega)) (sl_take f _)
theorem mtSeen_sl (L:List Sb):∀q∈mtSeen L,Sl q:=fun q hq=>by
 obtain⟨h0,h1 | ⟨x,_,h2⟩⟩:=mem_mtSeen.1 hq
 ·exact absurd h1 h0
 ·exact fun y hy=>tLev_47 (h2.subset hy)
theorem add_map {T:List (List (List UInt8))}{p:List (List UInt8)}(hT:∀q∈T,Sl q)(hp:Sl p):(mtSeenAdd T p).map jn=if((T.map jn).any fun y=>y==jn p)=true then T.map jn else T.map jn++ [jn p]:=by
 have h:(((T.map jn).any fun y=>y==jn p)=true)↔p∈T:=by
  rw[List.any_eq_true]
  constructor
  ·rintro⟨y,hy,e⟩
   obtain⟨q,hq,rfl⟩:=List.mem_map.1 hy;rw[←jn_inj (hT q hq) hp (eq_of_beq e)];exact hq
  ·exact fun hm=>⟨jn p,List.mem_map_of_mem hm,by simp⟩
 unfold mtSeenAdd
 by_cases hm:p∈T
 ·rw[if_pos hm,if_pos (h.2 hm)]
 ·rw[if_neg hm,if_neg (fun e=>hm (h.1 e))]
  simp
theorem ndK_le (K:List (List (List UInt8)))(hK:K.Nodup)(f:List UInt8)(k:Nat):(ndK K f k).length≤K.length+k:=by
 have h:=(seen_fold ((mtPres f).take k) K hK).2.2;unfold ndK;rw[List.length_take]at h;omega
theorem any_take {l:List (List UInt8)}{z:List UInt8}{q:Nat}(hq:q < l.length):((l.take (q+1)).any fun y=>y==z)=(((l.take q).any fun y=>y==z) || l[q]==z):=by
 rw[List.take_succ_eq_append_getElem hq,List.any_append,List.any_cons,List.any_nil,Bool.or_false]
end Go.Proofs.YtoadlafdeoklbaaGreatDoor

namespace Go.Proofs.YtoadlafdeoklbaaGreatDoor
open Go.RowKit Go.Maps Go.Shelf

/-- Where the outer loop stands. -/
structure RfnAt (w wr:World)(T:List (List (List UInt8)))(v:Value):Prop where
 own:OwnT wr w.heap.size v (T.map jn)
 k:Keeps w wr []
/-- Where the loop over the levels stands. -/
structure RfnIn (w wr:World)(T:List (List (List UInt8)))(v:Value)(B:Nat)(xv:Value)(P:List (List UInt8)):Prop where
 own:OwnT wr w.heap.size v (T.map jn)
 k:Keeps w wr []
 x:OwnT wr B xv P
 ap:∀g,xv.ownBlock=some g→g∉v.ownBlock.toList
theorem RfnIn.keeps {w wr w' :World}{T:List (List (List UInt8))}{v xv:Value}{B:Nat}{P:List (List UInt8)}(h:RfnIn w wr T v B xv P)(hk:Keeps wr w' []):RfnIn w w' T v B xv P:=⟨h.own.keeps hk,h.k.then_ hk,h.x.keeps hk,h.ap⟩
theorem RfnAt.to {w wr w2:World}{T:List (List (List UInt8))}{v xv:Value}{P:List (List UInt8)}(h:RfnAt w wr T v)(hk:Keeps wr w2 [])(hx:OwnT w2 wr.heap.size xv P):RfnIn w w2 T v wr.heap.size xv P:=
 ⟨h.own.keeps hk,h.k.then_ hk,hx,fun g hg hm=>by
  obtain⟨_,cs,hr⟩:=h.own.rows g hm;have h1:=(hx.rows g (by rw[hg];simp)).1;have h2:=hr.lt;omega⟩
theorem own_txt {w:World}{B:Nat}{A:Option Addr}{n c m:Nat}{l:List (List UInt8)}(h:OwnT w B (.slice A n c) l)(hm:m < l.length):∃g cur,A=some ⟨g,0,none⟩∧n=l.length∧Row w g 9 cur∧cur[m]? =some (.string ⟨l[m].toArray⟩):=by
 obtain⟨g,cur,h1,h2,_,h3,h4,_⟩:=OwnN.one (q:=fun a=> .string ⟨a.toArray⟩) (fun _=>rfl) h hm;exact⟨g,cur,h1,h2,h3,h4⟩
set_option maxRecDepth 100000 in
set_option maxHeartbeats 4000000 in
theorem rfNodes_any (w:World)(A:Option Addr)(cap:Nat)(L:List Sb)(hl:ListAt w 25 3 sbC A L)(hok:∀x∈L,tFilter x.f=true∧x.f.length≤50000)(hle:L.length≤4096):
  Calls Tryz.prog 58 #[.slice A L.length cap] w fun e w' =>e= .returned (.int .i64 (mtNodes L:Nat))∧Keeps w w' []:=by
 have HL:=zh hl;have HOK:=zh hok;have HLE:=zh hle;clear hl hok hle
 go_enter Tryz.func58,Tryz.ntmps58
 go_wp2_with fail
 go_loopw [3,4] (fun v i wr=>∃j:Nat,j≤L.length∧i= .int .i64 j∧Hid (RfnAt w wr (mtSeen (L.take j)) v)) (fun _ i _=>L.length - (intOf i).toNat)
 case atStart=>exact⟨0,by omega,rfl,zh ⟨OwnN.nil _ _ _ _ _,Keeps.refl _ _⟩⟩
 case round=>
  obtain⟨j,hj,rfl,HR⟩:=hrel;have hle:=HLE.out
  by_cases hjl:j < L.length
  ·obtain⟨b,o,rfl,_,_⟩:=HL.out.at_ hjl
   have HST:=zh (seen_step hjl);have HOX:=zh (HOK.out _ (List.getElem_mem hjl));obtain⟨⟨xf,xc,xq⟩,hx⟩:∃x,L[j]=x:=⟨_,rfl⟩;have HCW:=zh (show∀W,Keeps w W []→∀k,k < 3→W.cell? ⟨b,o+j*3+k,none⟩=(sbC ⟨xf,xc,xq⟩)[k]? from fun W hk k hki=>by
    rw[←hx];obtain⟨b',o',e,_,hc'⟩:=(HL.out.keeps hk).at_ hjl;injection e with e
    injection e with e1 e2
    subst e1 e2;exact hc' k hki)
   rw[hx]at HST HOX;obtain⟨X,hX⟩:∃S:ByteArray,(⟨xf.toArray⟩:ByteArray)=S:=⟨_,rfl⟩;have c0:=HCW.out wr HR.out.k 0 (by omega);simp only[sbC,zgz,Nat.add_zero,hX]at c0;have HLV:=zh (rLevelsO_any wr xf (by have:=HOX.out.2;simpa using (show xf.length≤60000 by have:=HOX.out.2;simp at this;omega)));rw[hX]at HLV;obtain⟨K,hK⟩:∃K,mtSeen (L.take j)=K:=⟨_,rfl⟩;have HKK:=zh (show K.Nodup∧(∀q∈K,Sl q)∧K.length≤L.length*201 from by
    rw[←hK];refine⟨mtSeen_nodup _,mtSeen_sl _,Nat.le_trans (mtNodes_le (L:=L.take j) fun x hx=>(HOK.out x (List.mem_of_mem_take hx)).1) (Nat.mul_le_mul_right _ (by rw[List.length_take];omega))⟩)
   have HNA:=zh (show RfnAt w wr K u3 from by rw[←hK];exact HR.out);rw[hK]at HST;have HFL:=zh (show(tLev xf).length≤50001∧∀k,(jn ((tLev xf).take k)).length≤50001 from by
    have h1:=tLev_len xf;have h2:xf.length≤50000:=HOX.out.2;exact⟨by omega,fun k=>by have:=tjn_len xf k;omega⟩)
   obtain⟨A0,n0,rfl⟩:=OwnN.slice HNA.out.own;obtain⟨l0,hl0⟩:∃n,(K.map jn).length=n:=⟨_,rfl⟩;rw[hl0]at HNA;rw[hl0];clear hx hX hK HR hl0
   go_wp2_with fail
   refine HLV.out.mono ?_;rintro e w2 ⟨A2,c2,rfl,ho2,hk2⟩;have HN2:=zh (RfnAt.to HNA.out hk2 ho2);obtain⟨n,hn⟩:∃n,(tLev xf).length=n:=⟨_,rfl⟩;have HNL:=zh hn;obtain⟨BX,hBX⟩:∃z,wr.heap.size=z:=⟨_,rfl⟩;rw[hn,hBX]at HN2;rw[hn];clear hBX;have hnn:n≤50001:=by have:=HFL.out.1;omega
   clear hk2 ho2 HLV c0 hn HNA
   go_wp2_with fail
   go_loopw [3,6,7] (fun v s k wr' =>∃m:Nat,m≤n∧k= .int .i64 m∧∃S:ByteArray,s= .string S∧S.size≤50001∧Hid (S=⟨(jn ((tLev xf).take m)).toArray⟩)∧Hid (RfnIn w wr' (ndK K xf m) v BX (.slice A2 n c2) (tLev xf))) (fun _ _ k _=>n - (intOf k).toNat)
   case atStart=>exact⟨0,by omega,by go_num,_,rfl,by decide,zh rfl,zh (by rw[ndK_zero];exact HN2.out)⟩
   case round=>
    obtain⟨m,hm,rfl,S,rfl,hSz,HS,HI⟩:=hrel
    by_cases hmn:m < n
    ·have hml:m < (tLev xf).length:=by have:=HNL.out;omega
     obtain⟨g2,cu2,rfl,-,hr2,hc2⟩:=own_txt HI.out.x hml;have HJT:=zh (jn_take hml);have HND:=zh (ndK_succ K hml);have HSL:=zh (ndK_sl HKK.out.2.1 xf m (by omega));have HLN:=zh (ndK_le K HKK.out.1 xf m);obtain⟨X1,hX1⟩:∃S:ByteArray,(⟨(tLev xf)[m].toArray⟩:ByteArray)=S:=⟨_,rfl⟩;rw[hX1]at hc2;have hXz:X1.size≤50000:=by
      have h1:=tLev_size (List.getElem_mem hml);have h2:xf.length≤50000:=HOX.out.2;rw[←hX1];show((tLev xf)[m].toArray).size≤_;simp only[List.size_toArray];omega
     obtain⟨S1,hS1⟩:∃q,S++(⟨#[47]⟩:ByteArray)=q:=⟨_,rfl⟩;obtain⟨Z,hZ⟩:∃q,S1++X1=q:=⟨_,rfl⟩;have HZ:=zh (show Z=⟨(jn ((tLev xf).take (m+1))).toArray⟩from by
      rw[←hZ,←hS1,HS.out,←hX1,HJT.out,txt_app,←txt_app];rfl)
     have hz1:¬9223372036854775807 < S.size+1:=by omega
     have hs1:S1.size=S.size+1:=by rw[←hS1,ByteArray.size_append];rfl
     have hz2:¬9223372036854775807 < S1.size+X1.size:=by omega
     have hZz:Z.size≤50001:=by
      rw[HZ.out];exact HFL.out.2 (m+1)
     obtain⟨TM,hTM⟩:∃l,(ndK K xf m).map jn=l:=⟨_,rfl⟩;have HTM:=zh hTM;have HO:=zh (show OwnT wr w.heap.size u3 TM from by rw[←hTM];exact HI.out.own);obtain⟨A1,n1,rfl⟩:=OwnN.slice HO.out;have htm:TM.length≤900000:=by
      have h1:=HLN.out;have h2:=HKK.out.2.2;rw[←hTM,List.length_map];omega
     have c1:=(hr2.cell m).trans hc2;clear hX1 hr2 hc2 HO hTM
     go_wp2_with fail
     have HI9:=HI;clear HI hS1 hZ hz1 hz2 hs1 c1
     go_loopw [8,9] (fun t q wq=>∃k:Nat,k≤TM.length∧q= .int .i64 k∧∃tb:Bool,t= .bool tb∧Hid (((TM.take k).any fun y=>y==jn ((tLev xf).take (m+1)))=tb)∧Hid (RfnIn w wq (ndK K xf m) (.slice A1 TM.length n1) BX (.slice (some ⟨g2,0,none⟩) n c2) (tLev xf))) (fun _ q _=>TM.length - (intOf q).toNat)
     case atStart=>exact⟨0,by omega,by go_num,false,rfl,zh rfl,HI9⟩
     case round=>
      obtain⟨k,hk,rfl,tb,rfl,HT,HI⟩:=hrel
      by_cases hkl:k < TM.length
      ·have HAT:=zh (any_take (z:=jn ((tLev xf).take (m+1))) hkl)
       obtain⟨g,cur,rfl,-,hr,hc⟩:=own_txt (show OwnT wr w.heap.size _ TM from by rw[←HTM.out];exact HI.out.own) hkl;obtain⟨Y,hY⟩:∃S:ByteArray,(⟨TM[k].toArray⟩:ByteArray)=S:=⟨_,rfl⟩;rw[hY]at hc;have HBE:=zh (show(TM[k]==jn ((tLev xf).take (m+1)))=(Y.toList==Z.toList)from by rw[←hY,HZ.out,Lib.toList_data,Lib.toList_data]);obtain⟨be,hbe⟩:∃z,(Y.toList==Z.toList)=z:=⟨_,rfl⟩;rw[hbe]at HBE;rw[HT.out,HBE.out]at HAT;have c2' :=(hr.cell k).trans hc;clear hY hr hc
       cases tb with
       | true=>
        go_wp2_with fail
        exact⟨⟨k+1,by omega,by go_num,true,rfl,zh (by rw[HAT.out];rfl),HI⟩,by simp[intOf];omega⟩
       | false=>
        go_wp2_with fail
        exact⟨⟨k+1,by omega,by go_num,be,rfl,zh (by rw[HAT.out];rfl),HI⟩,by simp[intOf];omega⟩
      ·obtain rfl:k=TM.length:=by omega
       have HNM:=zh (show(ndK K xf (m+1)).map jn=if tb=true then TM else TM++ [jn ((tLev xf).take (m+1))]from by
        rw[HND.out,add_map HSL.out (sl_take _ _),HTM.out];have h:=HT.out;rw[List.take_length]at h;rw[h])
       cases tb with
       | true=>
        have HI9:=zh (show RfnIn w wr (ndK K xf (m+1)) (.slice A1 TM.length n1) _ (.slice (some ⟨g2,0,none⟩) n c2) (tLev xf)from⟨by rw[HNM.out,if_pos rfl];have h:=HI.out.own;rwa [HTM.out]at h,HI.out.k,HI.out.x,HI.out.ap⟩);clear HI
        go_wp2_with fail
        exact⟨⟨m+1,by omega,by go_num,Z,rfl,hZz,HZ,HI9⟩,by simp[intOf];omega⟩
       | false=>
        obtain⟨Wa,hWa⟩:∃Wa,wr.alloc (.cells #[.string Z] 9)=Wa:=⟨_,rfl⟩;have ra:Row Wa wr.heap.size 9 #[.string Z]:=by rw[←hWa];exact Row.new _ _ _
        have ka:Keeps wr Wa []:=by rw[←hWa];exact Keeps.alloc _ _
        have HLa:=zh (show Lies Wa Wa.heap.size (some ⟨wr.heap.size,0,none⟩) ([jn ((tLev xf).take (m+1))].flatMap txtV)from lies_of_row ra (by rw[HZ.out];rfl));have HIa:=zh (HI.out.keeps ka);have HOa:=zh (show OwnT Wa w.heap.size (.slice A1 TM.length n1) TM from by have h:=HIa.out.own;rwa [HTM.out]at h);clear ra ka HI
        go_wp2_with (at_builtin;refine wpList_append_N elemTxt encTxt rfl (.tmp 52) (.tmp 54) rfl w.heap.size (.slice A1 TM.length n1) (some ⟨wr.heap.size,0,none⟩) 1 1 TM [jn ((tLev xf).take (m+1))] rfl rfl rfl HOa.out HLa.out (by simp;omega) HIa.out.k.size ?_;intro A5 c5 w5 l5 hl5 hlen5 ho5 hk5 hb5;have H5:=zh (And.intro hl5.out (And.intro ho5 (And.intro hk5 hb5)));clear hl5 ho5 hk5 hlen5 hb5)
        have HI9:=zh (show RfnIn w w5 (ndK K xf (m+1)) (.slice A5 l5.length c5) _ (.slice (some ⟨g2,0,none⟩) n c2) (tLev xf)from⟨by
         rw[HNM.out,if_neg (by decide),←H5.out.1];exact H5.out.2.1,HIa.out.k.trans H5.out.2.2.1 fun x hx hlt=>by
         have:=(HOa.out.rows x hx).1;omega,ownN_keep HIa.out.x H5.out.2.2.1 HIa.out.ap,fun g hg hm=>by
         rcases H5.out.2.2.2 with h | h
         ·rw[h]at hm
          exact HIa.out.ap g hg hm
         ·rw[h]at hm
          obtain⟨_,cs,hr⟩:=HIa.out.x.rows g (by rw[hg];simp);have h1:=hr.lt;simp at hm;omega⟩)
        exact⟨⟨m+1,by omega,by go_num,Z,rfl,hZz,HZ,HI9⟩,by simp[intOf];omega⟩
    ·obtain rfl:m=n:=by omega
     have HNX:=zh (show RfnAt w wr (mtSeen (L.take (j+1))) u3 from by
      rw[HST.out,←ndK_all,HNL.out];exact⟨HI.out.own,HI.out.k⟩)
     clear HI
     go_wp2_with fail
     exact⟨⟨j+1,by omega,by go_num,HNX⟩,by simp[intOf];omega⟩
  ·obtain rfl:j=L.length:=by omega
   have HEN:=zh (show((mtSeen L).map jn).length=mtNodes L from by rw[List.length_map];rfl);have HOW:=zh (show OwnT wr w.heap.size u3 ((mtSeen L).map jn)from by have h:=HR.out.own;rwa [List.take_length]at h);obtain⟨A1,n1,rfl⟩:=OwnN.slice HOW.out;rw[HEN.out]
   go_wp2_with fail
   go_ret;exact⟨rfl,HR.out.k⟩
end Go.Proofs.YtoadlafdeoklbaaGreatDoor
