/- Plain: the place of the first thing of which something is so. Package length: the first of some of which something is so; bounds, Size. Package length: bounds, Size. -/
import Derived.Test.YtahbikfbjenfpaaGreatDoorPa3
import Derived.Test.YtahbikfbjenfpaaGreatDoorPa1
import Derived.Test.YtahbikfbjenfpaaGreatDoorPa2

namespace Go.Proofs.YtahbikfbjenfpaaGreatDoor
open Go.RowKit

def fIdx {α:Type}(p:α→Bool)(l:List α):Int:=match l.findIdx? p with
 | some i=>(i:Int)
 | none=> -1
theorem fIdx_found {α:Type}{p:α→Bool}{l:List α}{j:Nat}(hj:j < l.length)(h:(l.take j).all (fun x=> !p x)=true)(hp:p l[j]=true):fIdx p l=j:=by
 unfold fIdx;have e:l.findIdx? p=some j:=by
  rw[List.findIdx?_eq_some_iff_getElem];refine⟨hj,hp,fun i hi=> ?_⟩;have hm:l[i]'(by omega)∈l.take j:=by
   rw[List.mem_take_iff_getElem];exact⟨i,by omega,rfl⟩
  have:=List.all_eq_true.1 h _ hm
  simpa using this
 rw[e]
theorem fIdx_none {α:Type}{p:α→Bool}{l:List α}(h:l.all (fun x=> !p x)=true):fIdx p l= -1:=by
 unfold fIdx;have e:l.findIdx? p=none:=by
  rw[List.findIdx?_eq_none_iff];intro x hx;have:=List.all_eq_true.1 h x hx
  simpa using this
 rw[e]
theorem fIdx_take {α:Type}{p:α→Bool}{l:List α}{j:Nat}(hj:j < l.length)(h:(l.take j).all (fun x=> !p x)=true)(hp:p l[j]=false):(l.take (j+1)).all (fun x=> !p x)=true:=by
 rw[List.take_succ_eq_append_getElem hj,List.all_append,h];simp[hp]
/-- None is so, or some is. -/
theorem fIdx_any {α:Type}(p:α→Bool)(l:List α):decide (fIdx p l≥0)=l.any p:=by
 unfold fIdx
 cases hf:l.findIdx? p with
 | none=>
  rw[List.findIdx?_eq_none_iff]at hf;have:l.any p=false:=by
   rw[List.any_eq_false];intro x hx;have:=hf x hx;simp[this]
  rw[this];simp
 | some i=>
  rw[List.findIdx?_eq_some_iff_getElem]at hf;obtain⟨h1,h2,_⟩:=hf;have:l.any p=true:=List.any_eq_true.2 ⟨_,List.getElem_mem _,h2⟩;rw[this];simp

set_option maxRecDepth 100000 in
set_option maxHeartbeats 1000000 in
theorem idxSize_any (w:World)(bx:Nat)(A:Option Addr)(c:Nat)(l:List Int)(p:Int→Bool)(hL:Lies w w.heap.size A (l.map fun x=> .int .i64 x))(hl:l.length≤1000000)
  (HC:∀W,Keeps w W []→∀x∈l,Calls Tryz.prog 150 #[.int .i64 x,.pointer (some ⟨bx,0,none⟩)] W (TruePost W (p x))):
  Calls Tryz.prog 149 #[.slice A l.length c,.func (.func 150) #[] #[.pointer (some ⟨bx,0,none⟩)]] w fun e w' =>e= .returned (.int .i64 (fIdx p l))∧Keeps w w' []:=by
 have HC:=zh HC;have HBX:=zh (show bx=bx from rfl)
 go_enter Tryz.func149,Tryz.ntmps149
 go_wp2_with fail
 go_loopw [8] (fun i wr=>∃j:Nat,j≤l.length∧i= .int .i64 j∧Hid ((l.take j).all (fun x=> !p x)=true∧Keeps w wr [])) (fun i _=>l.length - (intOf i).toNat)
 case atStart=>exact⟨0,by omega,rfl,zh ⟨rfl,Keeps.refl _ _⟩⟩
 case round=>
  obtain⟨j,hj,rfl,HJ⟩:=hrel
  by_cases hjl:j < l.length
  ·obtain⟨b,o,rfl,hb,hc⟩:=(hL.keeps HJ.out.2).at_ (k:=j) (by simpa using hjl)
   simp only[List.getElem_map]at hc;have HF:=zh (fun h=>fIdx_take (p:=p) (j:=j) hjl HJ.out.1 h);have HCX:=zh (HC.out wr HJ.out.2 l[j] (List.getElem_mem _));have HP:=zh (fun h=>fIdx_found (p:=p) (j:=j) hjl HJ.out.1 h);have HL:=zh hL;clear hL;obtain⟨q,hq⟩:∃q,p l[j]=q:=⟨_,rfl⟩;rw[hq]at HCX HP HF
   generalize l[j]=x at hc HCX hq
   clear hq
   go_wp2_with fail
   refine HCX.out.mono ?_;rintro e w3 ⟨rfl,hk3⟩;have HK:=zh (HJ.out.2.then_ hk3);clear hk3 hc HCX
   cases q with
   | true=>
    go_wp2_with fail
    go_ret;exact⟨by rw[HP.out (by first | rfl | trivial)];rfl,HK.out⟩
   | false=>
    go_wp2_with fail
    exact⟨⟨j+1,by omega,by go_num,zh ⟨HF.out (by first | rfl | trivial),HK.out⟩⟩,by simp[intOf];omega⟩
  ·obtain rfl:j=l.length:=by omega
   clear hL;have HN:=zh (fIdx_none (p:=p) (l:=l) (by have:=HJ.out.1;rwa [List.take_length]at this))
   go_wp2_with fail
   go_ret;exact⟨by rw[HN.out];rfl,HJ.out.2⟩
set_option maxRecDepth 100000 in
set_option maxHeartbeats 1000000 in
theorem idxMay_any (w:World)(bx:Nat)(A:Option Addr)(c:Nat)(l:List Int)(p:Int→Bool)(hL:Lies w w.heap.size A (l.map fun x=> .int .i64 x))(hl:l.length≤1000000)
  (HC:∀W,Keeps w W []→∀x∈l,Calls Tryz.prog 144 #[.int .i64 x] W (TruePost W (p x))):
  Calls Tryz.prog 149 #[.slice A l.length c,.func (.func 144) #[] #[]] w fun e w' =>e= .returned (.int .i64 (fIdx p l))∧Keeps w w' []:=by
 have HC:=zh HC;have HBX:=zh (show bx=bx from rfl)
 go_enter Tryz.func149,Tryz.ntmps149
 go_wp2_with fail
 go_loopw [8] (fun i wr=>∃j:Nat,j≤l.length∧i= .int .i64 j∧Hid ((l.take j).all (fun x=> !p x)=true∧Keeps w wr [])) (fun i _=>l.length - (intOf i).toNat)
 case atStart=>exact⟨0,by omega,rfl,zh ⟨rfl,Keeps.refl _ _⟩⟩
 case round=>
  obtain⟨j,hj,rfl,HJ⟩:=hrel
  by_cases hjl:j < l.length
  ·obtain⟨b,o,rfl,hb,hc⟩:=(hL.keeps HJ.out.2).at_ (k:=j) (by simpa using hjl)
   simp only[List.getElem_map]at hc;have HF:=zh (fun h=>fIdx_take (p:=p) (j:=j) hjl HJ.out.1 h);have HCX:=zh (HC.out wr HJ.out.2 l[j] (List.getElem_mem _));have HP:=zh (fun h=>fIdx_found (p:=p) (j:=j) hjl HJ.out.1 h);have HL:=zh hL;clear hL;obtain⟨q,hq⟩:∃q,p l[j]=q:=⟨_,rfl⟩;rw[hq]at HCX HP HF
   generalize l[j]=x at hc HCX hq
   clear hq
   go_wp2_with fail
   refine HCX.out.mono ?_;rintro e w3 ⟨rfl,hk3⟩;have HK:=zh (HJ.out.2.then_ hk3);clear hk3 hc HCX
   cases q with
   | true=>
    go_wp2_with fail
    go_ret;exact⟨by rw[HP.out (by first | rfl | trivial)];rfl,HK.out⟩
   | false=>
    go_wp2_with fail
    exact⟨⟨j+1,by omega,by go_num,zh ⟨HF.out (by first | rfl | trivial),HK.out⟩⟩,by simp[intOf];omega⟩
  ·obtain rfl:j=l.length:=by omega
   clear hL;have HN:=zh (fIdx_none (p:=p) (l:=l) (by have:=HJ.out.1;rwa [List.take_length]at this))
   go_wp2_with fail
   go_ret;exact⟨by rw[HN.out];rfl,HJ.out.2⟩
set_option maxRecDepth 100000 in
set_option maxHeartbeats 1000000 in
theorem idxByte_any (w:World)(bx:Nat)(A:Option Addr)(c:Nat)(l:List UInt8)(p:UInt8→Bool)(hL:Lies w w.heap.size A (l.map fun x=>byteV x))(hl:l.length≤1000000)
  (HC:∀W,Keeps w W []→∀x∈l,Calls Tryz.prog 97 #[byteV x] W (TruePost W (p x))):
  Calls Tryz.prog 96 #[.slice A l.length c,.func (.func 97) #[] #[]] w fun e w' =>e= .returned (.int .i64 (fIdx p l))∧Keeps w w' []:=by
 have HC:=zh HC;have HBX:=zh (show bx=bx from rfl)
 go_enter Tryz.func96,Tryz.ntmps96
 go_wp2_with fail
 go_loopw [8] (fun i wr=>∃j:Nat,j≤l.length∧i= .int .i64 j∧Hid ((l.take j).all (fun x=> !p x)=true∧Keeps w wr [])) (fun i _=>l.length - (intOf i).toNat)
 case atStart=>exact⟨0,by omega,rfl,zh ⟨rfl,Keeps.refl _ _⟩⟩
 case round=>
  obtain⟨j,hj,rfl,HJ⟩:=hrel
  by_cases hjl:j < l.length
  ·obtain⟨b,o,rfl,hb,hc⟩:=(hL.keeps HJ.out.2).at_ (k:=j) (by simpa using hjl)
   simp only[List.getElem_map]at hc;have HF:=zh (fun h=>fIdx_take (p:=p) (j:=j) hjl HJ.out.1 h);have HCX:=zh (HC.out wr HJ.out.2 l[j] (List.getElem_mem _));have HP:=zh (fun h=>fIdx_found (p:=p) (j:=j) hjl HJ.out.1 h);have HL:=zh hL;clear hL;obtain⟨q,hq⟩:∃q,p l[j]=q:=⟨_,rfl⟩;rw[hq]at HCX HP HF
   generalize l[j]=x at hc HCX hq
   clear hq
   go_wp2_with fail
   refine HCX.out.mono ?_;rintro e w3 ⟨rfl,hk3⟩;have HK:=zh (HJ.out.2.then_ hk3);clear hk3 hc HCX
   cases q with
   | true=>
    go_wp2_with fail
    go_ret;exact⟨by rw[HP.out (by first | rfl | trivial)];rfl,HK.out⟩
   | false=>
    go_wp2_with fail
    exact⟨⟨j+1,by omega,by go_num,zh ⟨HF.out (by first | rfl | trivial),HK.out⟩⟩,by simp[intOf];omega⟩
  ·obtain rfl:j=l.length:=by omega
   clear hL;have HN:=zh (fIdx_none (p:=p) (l:=l) (by have:=HJ.out.1;rwa [List.take_length]at this))
   go_wp2_with fail
   go_ret;exact⟨by rw[HN.out];rfl,HJ.out.2⟩
set_option maxRecDepth 100000 in
set_option maxHeartbeats 400000 in
theorem lnMay_any (w:World)(n:Int):Calls Tryz.prog 145 #[.int .i64 n] w fun e w' =>e= .returned (.bool (decide (0≤n) && decide (n≤268435455)))∧w=w' :=by
 by_cases h1:0≤n
 ·have d1:decide (n≥0)=true:=decide_eq_true h1
  have d2:decide (0≤n)=true:=decide_eq_true h1;obtain⟨q,hq⟩:∃q,decide (n≤268435455)=q:=⟨_,rfl⟩;have HQ:=zh (show(decide (0≤n) && decide (n≤268435455))=q by rw[d2,hq];rfl);clear d2
  go_enter Tryz.func145,Tryz.ntmps145
  go_wp2_with fail
  go_ret;exact⟨by first | rfl | (rw[HQ.out];rfl),rfl⟩
 ·have d1:decide (n≥0)=false:=decide_eq_false h1
  have HQ:=zh (show(decide (0≤n) && decide (n≤268435455))=false by rw[show decide (0≤n)=false from decide_eq_false h1];rfl)
  go_enter Tryz.func145,Tryz.ntmps145
  go_wp2_with fail
  go_ret;exact⟨by first | rfl | (rw[HQ.out];rfl),rfl⟩

theorem row_put {t:TypeId}{W:World}{b:Nat}{cs:Array Value}(h:Row W b t cs)(i:Nat)(v:Value){W' :World}(hW:W.setCell ⟨b,i,none⟩ v=W'){ds:Array Value}(hd:cs.setIfInBounds i v=ds):Row W' b t ds∧Keeps W W' [b]:=by
 subst hW hd;exact⟨h.store i v,Keeps.setCell _ _ _⟩
theorem lnb_end {t:TypeId}{w W:World}{z:Nat}{v0 v1 v2 v3 v4 u0 u1 u2 u3 u4:Value}{F:World→Prop}(h:Row W z t #[u0,u1,u2,u3,u4])(hk:Keeps w W [])(hz:w.heap.size≤z)
  (hF:∀W9,Row W9 z t #[v0,v1,v2,v3,v4]→Keeps w W9 []→F W9):F (((((W.setCell ⟨z,0,none⟩ v0).setCell ⟨z,1,none⟩ v1).setCell ⟨z,2,none⟩ v2).setCell ⟨z,3,none⟩ v3).setCell ⟨z,4,none⟩ v4):=by
 obtain⟨W0,e0⟩:∃W',W.setCell ⟨z,0,none⟩ v0=W' :=⟨_,rfl⟩;obtain⟨h0,k0⟩:=row_put h 0 v0 e0 (ds:= #[v0,u1,u2,u3,u4]) rfl;rw[e0];obtain⟨W1,e1⟩:∃W',W0.setCell ⟨z,1,none⟩ v1=W' :=⟨_,rfl⟩;obtain⟨h1,k1⟩:=row_put h0 1 v1 e1 (ds:= #[v0,v1,u2,u3,u4]) rfl;rw[e1];obtain⟨W2,e2⟩:∃W',W1.setCell ⟨z,2,none⟩ v2=W' :=⟨_,rfl⟩;obtain⟨h2,k2⟩:=row_put h1 2 v2 e2 (ds:= #[v0,v1,v2,u3,u4]) rfl;rw[e2];obtain⟨W3,e3⟩:∃W',W2.setCell ⟨z,3,none⟩ v3=W' :=⟨_,rfl⟩;obtain⟨h3,k3⟩:=row_put h2 3 v3 e3 (ds:= #[v0,v1,v2,v3,u4]) rfl;rw[e3];obtain⟨W4,e4⟩:∃W',W3.setCell ⟨z,4,none⟩ v4=W' :=⟨_,rfl⟩;obtain⟨h4,k4⟩:=row_put h3 4 v4 e4 (ds:= #[v0,v1,v2,v3,v4]) rfl;rw[e4];have kk:∀{x y z' :World},Keeps x y [z]→Keeps y z' [z]→Keeps x z' [z]:=fun h k=>h.trans k (fun _ hx _=>hx)
 exact hF _ h4 (hk.trans (kk k0 (kk k1 (kk k2 (kk k3 k4)))) fun x hx hlt=>by
  rw[List.mem_singleton]at hx;omega)
def lnBd (j:Nat):Array Value:= #[.int .i64 0,.int .i64 (if 1≤j then 128 else 0),.int .i64 (if 2≤j then 16384 else 0),.int .i64 (if 3≤j then 2097152 else 0),.int .i64 (if 4≤j then 268435456 else 0)]
set_option maxRecDepth 100000 in
set_option maxHeartbeats 2000000 in
theorem lnBounds_any (w:World):Calls Tryz.prog 148 #[] w fun e w' =>e= .returned (.agg #[.int .i64 0,.int .i64 128,.int .i64 16384,.int .i64 2097152,.int .i64 268435456])∧Keeps w w' []:=by
 go_enter Tryz.func148,Tryz.ntmps148
 go_wp2_with fail
 go_loopw [3] (fun i wr=>∃j:Nat,j≤4∧i= .int .i64 j∧Hid (Row wr (w.heap.size+1) 157 (lnBd j)∧Row wr w.heap.size 157 #[.int .i64 0,.int .i64 0,.int .i64 0,.int .i64 0,.int .i64 0]∧Keeps w wr [])) (fun i _=>4 - (intOf i).toNat)
 case atStart=>
  refine⟨0,by omega,rfl,zh ⟨?_,(Row.new w _ _).alloc _,(Keeps.alloc _ _).then_alloc _⟩⟩;have:=Row.new (w.alloc (.cells #[.int .i64 0,.int .i64 0,.int .i64 0,.int .i64 0,.int .i64 0] 157)) 157 #[.int .i64 0,.int .i64 0,.int .i64 0,.int .i64 0,.int .i64 0]
  rwa [World.size_alloc]at this
 case round=>
  obtain⟨j,hj,rfl,HJ⟩:=hrel;have f0:=HJ.out.1.frozen 0;have f1:=HJ.out.1.frozen 1;have f2:=HJ.out.1.frozen 2;have f3:=HJ.out.1.frozen 3;have f4:=HJ.out.1.frozen 4;have c0:=HJ.out.1.cell 0;have c1:=HJ.out.1.cell 1;have c2:=HJ.out.1.cell 2;have c3:=HJ.out.1.cell 3;have c4:=HJ.out.1.cell 4;unfold lnBd at c0 c1 c2 c3 c4;simp only[zga,zgz,zgs]at c0 c1 c2 c3 c4;have e:j=0∨j=1∨j=2∨j=3∨j=4:=by omega
  rcases e with rfl | rfl | rfl | rfl | rfl
  ·go_wp2_with fail
   exact⟨⟨1,by omega,rfl,zh ⟨HJ.out.1.store 1 (.int .i64 128),HJ.out.2.1.far (by simp) _,HJ.out.2.2.then_set _ _ (by simp)⟩⟩,by simp[intOf]⟩
  ·go_wp2_with fail
   exact⟨⟨2,by omega,rfl,zh ⟨HJ.out.1.store 2 (.int .i64 16384),HJ.out.2.1.far (by simp) _,HJ.out.2.2.then_set _ _ (by simp)⟩⟩,by simp[intOf]⟩
  ·go_wp2_with fail
   exact⟨⟨3,by omega,rfl,zh ⟨HJ.out.1.store 3 (.int .i64 2097152),HJ.out.2.1.far (by simp) _,HJ.out.2.2.then_set _ _ (by simp)⟩⟩,by simp[intOf]⟩
  ·go_wp2_with fail
   exact⟨⟨4,by omega,rfl,zh ⟨HJ.out.1.store 4 (.int .i64 268435456),HJ.out.2.1.far (by simp) _,HJ.out.2.2.then_set _ _ (by simp)⟩⟩,by simp[intOf]⟩
  ·have g0:=HJ.out.2.1.frozen 0
   have g1:=HJ.out.2.1.frozen 1;have g2:=HJ.out.2.1.frozen 2;have g3:=HJ.out.2.1.frozen 3;have g4:=HJ.out.2.1.frozen 4;have d0:=HJ.out.2.1.cell 0;have d1:=HJ.out.2.1.cell 1;have d2:=HJ.out.2.1.cell 2;have d3:=HJ.out.2.1.cell 3;have d4:=HJ.out.2.1.cell 4;simp only[zga,zgz,zgs]at d0 d1 d2 d3 d4;clear f0 f1 f2 f3 f4
   go_wp2_with fail
   exact lnb_end HJ.out.2.1 HJ.out.2.2 (Nat.le_refl _) (fun W9 q9 hk=>by
    have e0:=q9.cell 0;have e1:=q9.cell 1;have e2:=q9.cell 2;have e3:=q9.cell 3;have e4:=q9.cell 4;simp only[zga,zgz,zgs]at e0 e1 e2 e3 e4;exact bodyPost_ret (v:= .agg #[.int .i64 0,.int .i64 128,.int .i64 16384,.int .i64 2097152,.int .i64 268435456]) (by simp[results,Tryz.results148,go_sem,e0,e1,e2,e3,e4]) rfl ⟨rfl,hk⟩)
theorem lnSz_idx {n:Int}(h:0≤n∧n≤268435455):fIdx (fun x=>decide (n < x)) [0,128,16384,2097152,268435456]=(lnSize n.toNat:Nat):=by
 unfold fIdx lnSize;have h0:¬n < 0:=by omega
 by_cases h1:n < 128
 ·simp[List.findIdx?_cons,h0,h1,show n.toNat < 128 by omega]
 ·by_cases h2:n < 16384
  ·simp[List.findIdx?_cons,h0,h1,h2,show¬n.toNat < 128 by omega,show n.toNat < 16384 by omega]
  ·by_cases h3:n < 2097152
   ·simp[List.findIdx?_cons,h0,h1,h2,h3,show¬n.toNat < 128 by omega,show¬n.toNat < 16384 by omega,show n.toNat < 2097152 by omega]
   ·simp[List.findIdx?_cons,h0,h1,h2,h3,show¬n.toNat < 128 by omega,show¬n.toNat < 16384 by omega,show¬n.toNat < 2097152 by omega,show n < 268435456 by omega]
set_option maxRecDepth 100000 in
set_option maxHeartbeats 1000000 in
theorem lnSize1_any (w:World)(bx:Nat)(n x:Int)(hb:Row w bx 2 #[.int .i64 n]):Calls Tryz.prog 150 #[.int .i64 x,.pointer (some ⟨bx,0,none⟩)] w (TruePost w (decide (n < x))):=by
 have c:=hb.cell 0;simp only[zga,zgz]at c;obtain⟨q,hq⟩:∃q,decide (n < x)=q:=⟨_,rfl⟩;rw[hq];clear hb
 go_enter Tryz.func150,Tryz.ntmps150
 go_wp2_with fail
 go_ret;exact⟨rfl,Keeps.refl _ _⟩
set_option maxRecDepth 100000 in
set_option maxHeartbeats 1000000 in
theorem lnSize_any (w:World)(n:Int)(h:0≤n∧n≤268435455):Calls Tryz.prog 99 #[.int .i64 n] w fun e w' =>e= .returned (.int .i64 (lnSize n.toNat:Nat))∧Keeps w w' []:=by
 have hmf:∀(fn:Fn) (first cap:Array Value) (w:World),(Instr.makeFunc fn first cap).run Tryz.prog w= .ok (.func fn first cap) w:=fun _ _ _ _=>rfl
 have HM:=zh (show(decide (0≤n) && decide (n≤268435455))=true by simp[h.1,h.2]);have HS:=zh (lnSz_idx h);obtain⟨W0,hW0⟩:∃W0,w.alloc (.cells #[.int .i64 n] 2)=W0:=⟨_,rfl⟩;have k0:Keeps w W0 []:=by rw[←hW0];exact Keeps.alloc _ _
 have r0:Row W0 w.heap.size 2 #[.int .i64 n]:=by rw[←hW0];exact Row.new _ _ _
 have c0:=r0.cell 0;simp only[zga,zgz]at c0;have HR:=zh (And.intro k0 r0);clear k0 r0 h
 go_enter Tryz.func99,Tryz.ntmps99
 go_wp2_with fail
 refine(lnMay_any _ n).mono ?_;rintro e w1 ⟨rfl,rfl⟩;rw[HM.out]
 go_wp2_with fail
 refine(lnBounds_any _).mono ?_;rintro e w1 ⟨rfl,hk⟩;obtain⟨W2,hW2⟩:∃W2,w1.alloc (.cells #[.int .i64 0,.int .i64 128,.int .i64 16384,.int .i64 2097152,.int .i64 268435456] 157)=W2:=⟨_,rfl⟩;have k2:Keeps w1 W2 []:=by rw[←hW2];exact Keeps.alloc _ _
 have r2:Row W2 w1.heap.size 157 #[.int .i64 0,.int .i64 128,.int .i64 16384,.int .i64 2097152,.int .i64 268435456]:=by rw[←hW2];exact Row.new _ _ _
 have H2:=zh (And.intro (hk.then_ k2) r2);clear hk k2 r2 hW0 c0
 go_wp2_with fail
 try rw[hW2]
 clear hW2;have hb:=HR.out.2.keeps H2.out.1;refine(idxSize_any W2 w.heap.size (some ⟨w1.heap.size,0,none⟩) 5 [0,128,16384,2097152,268435456] (fun x=>decide (n < x)) (fun _=>⟨w1.heap.size,0,rfl,H2.out.2.lt,fun j u hu=> ?_⟩) (by simp) (fun W hk x _=>lnSize1_any W _ n x (hb.keeps hk))).mono ?_
 ·rw[Nat.zero_add,H2.out.2.cell j,←hu]
  simp only[zga,List.map_cons,List.map_nil]
 rintro e w5 ⟨rfl,hk5⟩;have HK:=zh ((HR.out.1.then_ H2.out.1).then_ hk5);rw[HS.out];clear hk5 hb
 go_wp2_with fail
 go_ret;exact⟨rfl,HK.out⟩
end Go.Proofs.YtahbikfbjenfpaaGreatDoor
