/- Package match: slices.DeleteFunc at entries; Of. Package match: slices.DeleteFunc at entries, walked. Package match: Of, Leave. -/
import Derived.Test.YtoadlafdeoklbaaGreatDoorPa47
import Derived.Test.YtoadlafdeoklbaaGreatDoorPa43
import Derived.Test.YtoadlafdeoklbaaGreatDoorPa17
import Derived.Lib.SliceRun
import Derived.Test.YtoadlafdeoklbaaGreatDoorPa34

namespace Go.Proofs.YtoadlafdeoklbaaGreatDoor
open Go.RowKit Go.Maps Go.Shelf

theorem run_clear_sub (w:World)(ty:TypeId)(g o n c:Nat)(cs:Array Value)(hr:Row w g 25 cs)(hs:o+n*3≤cs.size):
  ∃ZL:List Value,(Builtin.clear_ #[22] ty #[.slice (some ⟨g,o,none⟩) n c]).run Tryz.prog w= .ok (.tuple #[]) (w.setCells g o ZL):=by
 rcases Nat.eq_zero_or_pos n with rfl | hn
 ·refine⟨[], ?_⟩
  simp[Builtin.clear_,run_underlying (show Tryz.prog.underlying 22=some (.slice 25)by kernel_rfl),World.setCells]
 obtain⟨z,hzz⟩:∃z,sbV sbZ=z:=⟨_,rfl⟩;have hv:∀w,(zeroValue 25).run Tryz.prog w= .ok z w:=fun w=>by rw[←hzz];exact zeroSub w
 have hs3:z.cells.size=3:=by rw[←hzz];rfl
 have ho3:∀k,k < 3→(z.cells[k]!).oneCell' =true:=fun k hk=>by
  rw[←hzz]
  rcases(show k=0∨k=1∨k=2 by omega)with h | h | h <;> rw[h] <;> rfl
 clear hzz;have hz:∀v∈(Builtin.zeroCells z.cells n).toList,v.oneCell' =true:=fun v hv=>by
  simp only[Builtin.zeroCells,Array.toList_map,List.mem_map]at hv;obtain⟨i,_,rfl⟩:=hv;exact ho3 _ (by rw[hs3];exact Nat.mod_lt _ (by decide))
 have hlen:(Builtin.zeroCells z.cells n).toList.length=n*3:=by
  rw[Array.length_toList,size_zeroCells,hs3]
 refine⟨(Builtin.zeroCells z.cells n).toList, ?_⟩;have hst:=run_storeCells_cells (P:=Tryz.prog) g o (Builtin.zeroCells z.cells n).toList 0 w (fun j hj=>by
  rw[hlen]at hj;rw[hr.cell,Array.getElem?_eq_getElem (by omega)];rfl) (fun j hj=>hr.frozen _) hz
 simp only[Nat.add_zero]at hst;obtain⟨m,rfl⟩:∃m,n=m+1:=⟨n - 1,by omega⟩;simp[Builtin.clear_,run_underlying (show Tryz.prog.underlying 22=some (.slice 25)by kernel_rfl),hv,hst]
/-- What is kept, laid ahead. -/
structure DlAt (q:Sb→Bool)(L M:List Sb)(i j:Nat):Prop where
 len:M.length=L.length
 le:i≤j
 fil:M.take i=(L.take j).filter q
 rest:M.drop j=L.drop j
theorem DlAt.get {q:Sb→Bool}{L M:List Sb}{i j:Nat}(h:DlAt q L M i j)(hj:j < L.length):M[j]'(by rw[h.len];exact hj)=L[j]:=by
 have h1:=h.rest;rw[List.drop_eq_getElem_cons (by rw[h.len];exact hj),List.drop_eq_getElem_cons hj]at h1;injection h1
theorem DlAt.skip {q:Sb→Bool}{L M:List Sb}{i j:Nat}(h:DlAt q L M i j)(hj:j < L.length)(hq:q L[j]=false):DlAt q L M i (j+1):=by
 refine⟨h.len,by have:=h.le;omega, ?_, ?_⟩
 ·rw[List.take_succ_eq_append_getElem hj,List.filter_append,←h.fil]
  simp[hq]
 ·have h1:=h.rest
  rw[List.drop_eq_getElem_cons (by rw[h.len];exact hj),List.drop_eq_getElem_cons hj]at h1;injection h1
theorem DlAt.keep {q:Sb→Bool}{L M:List Sb}{i j:Nat}(h:DlAt q L M i j)(hj:j < L.length)(hq:q L[j]=true):DlAt q L (M.set i L[j]) (i+1) (j+1):=by
 have hm:=h.len;have hle:=h.le;refine⟨by rw[List.length_set];exact hm,by omega, ?_, ?_⟩
 ·rw[List.take_succ_eq_append_getElem hj,List.filter_append,←h.fil,List.take_succ_eq_append_getElem (by rw[List.length_set];omega),List.getElem_set_self]
  rw[List.take_set_of_le (by omega)];simp[hq]
 ·rw[List.drop_set_of_lt (by omega)]
  have h1:=h.rest;rw[List.drop_eq_getElem_cons (by rw[h.len];exact hj),List.drop_eq_getElem_cons hj]at h1;injection h1
/-- The beginning of a list of one's own. -/
theorem OwnN.front {W:World}{B g c i:Nat}{M:List Sb}(h:OwnN W B 25 3 sbC (.slice (some ⟨g,0,none⟩) M.length c) M)(hi:i≤M.length):∃cs,Row W g 25 cs∧M.length*3≤cs.size∧∀(W' :World) (ZL:List Value),Row W' g 25 (setFrom ZL (i*3) cs)→OwnN W' B 25 3 sbC (.slice (some ⟨g,0,none⟩) i c) (M.take i):=by
 obtain⟨hn,⟨h2,_⟩ | ⟨g',cap,cur,h2,h3,h4,h5,h6,h7,h8⟩⟩:=h
 ·cases h2
 injection h2 with e1 _ e3
 injection e1 with e1
 injection e1 with e1
 subst e1 e3;have hcap:M.length*3≤c*3:=Nat.mul_le_mul_right _ h5;have hti:(M.take i).length=i:=by rw[List.length_take];omega
 refine⟨cur,h4,by omega,fun W' ZL hr=> ?_⟩;unfold OwnN;rw[hti];refine⟨by rw[flat_length encSb,hti],.inr ⟨g,c,_,rfl,h3,hr,by omega,h6,by rw[setFrom_size,h7], ?_⟩⟩;have hfl:(M.take i).flatMap sbC=(M.flatMap sbC).take (i*3):=by
  conv=>rhs;rw[←List.take_append_drop i M,List.flatMap_append]
  have hfi:((M.take i).flatMap sbC).length=i*3:=by rw[flat_length encSb,hti]
  rw[List.take_append_of_le_length (by omega),List.take_of_length_le (l:=(M.take i).flatMap sbC) (by omega)]
 rw[hfl,←h8,List.take_take,Nat.min_eq_left (Nat.mul_le_mul_right _ hi)];refine List.ext_getElem? fun q=> ?_
 rw[List.getElem?_take,List.getElem?_take]
 by_cases hq:q < i*3
 ·rw[if_pos hq,if_pos hq,Array.getElem?_toList,Array.getElem?_toList,setFrom_get _ _ _ _ (by omega),if_neg (by omega)]
 ·rw[if_neg hq,if_neg hq]

theorem addr_at (b o k:Nat):(⟨b,o,none⟩:Addr).add k=⟨b,o+k,none⟩:=by
 unfold Addr.add
 split
 ·rename_i h
  subst h;rfl
 ·rfl
theorem exec_at {P:Program}{e:Operand→Value}{o:Oper}{W:World}(ty:TypeId)(x i:Operand)(b ol n c m sz p:Nat)(hm:m < n)(hp:ol+m*sz=p)(ho:o.op= .indexAddr ty x i)(hx:e x= .slice (some ⟨b,ol,none⟩) n c)(hi:e i= .int .i64 (m:Nat))
  (hu:P.underlying ty=some (.slice (P.elem ty)):=by kernel_rfl) (hs:∀W,(sizeOf (P.elem ty)).run P W= .ok sz W:=by intro _;kernel_rfl):(execOp e o).run P W= .ok (.value (.pointer (some ⟨b,p,none⟩))) W:=by
 subst hp;have h1:=run_indexAt_slice (P:=P) W ty ⟨b,ol,none⟩ n c .i64 (m:Int) hu;rw[if_pos ⟨by omega,by omega⟩,hs,Result.andThen_ok,Int.toNat_natCast,addr_at]at h1;unfold execOp;simp only[ho,hx,hi,Sem.run_bind,h1,Result.andThen_ok,Sem.run_pure]
theorem own_at_some {w:World}{B:Nat}{A:Option Addr}{c:Nat}{l:List Sb}(h:OwnN w B 25 3 sbC (.slice A l.length c) l)(hl:0 < l.length):∃g,A=some ⟨g,0,none⟩∧l.length≤c∧B≤g:=by
 obtain⟨_,⟨_,h0⟩ | ⟨g,cap,cur,h2,h3,_,h5,_⟩⟩:=h
 ·omega
 ·injection h2 with e1 _ e3
  exact⟨g,e1,by omega,h3⟩
theorem fIdx_split {α:Type}(p:α→Bool)(l:List α):(fIdx p l= -1∧l.all (fun x=> !p x)=true)∨∃j,∃h:j < l.length,fIdx p l=j∧(l.take j).all (fun x=> !p x)=true∧p l[j]=true:=by
 unfold fIdx
 cases hf:l.findIdx? p with
 | none=>
  rw[List.findIdx?_eq_none_iff]at hf;exact .inl ⟨rfl,List.all_eq_true.2 fun x hx=>by rw[hf x hx];rfl⟩
 | some j=>
  obtain⟨h1,h2,h3⟩:=List.findIdx?_eq_some_iff_getElem.1 hf;refine .inr ⟨j,h1,rfl,List.all_eq_true.2 fun x hx=> ?_,h2⟩;obtain⟨i,hi,rfl⟩:=List.mem_take_iff_getElem.1 hx;have:=h3 i (by omega)
  simpa using this
theorem blt_clear (ats:Array TypeId)(ty:TypeId)(cs:Array Bool)(args:Array Value):builtin .clear ats ty cs args=(do pure (.value (←Builtin.clear_ ats ty args))):=rfl
theorem wpList_clear {ops:Array Oper}{rest:List Oper}{o:Oper}{a:Act}{Q:Exit→Act→World→Prop}{w:World}(hg:o.guard=none)(x:Operand)(ho:o.op= .call {callee:= .builtin .clear,args:= #[x],argTypes:= #[22]})(g i n c:Nat)(cs:Array Value)(hx:a.eval x= .slice (some ⟨g,i,none⟩) n c)(hr:Row w g 25 cs)(hs:i+n*3≤cs.size)
  (h:∀ZL w',Row w' g 25 (setFrom ZL i cs)→Keeps w w' [g]→wpList Tryz.prog ops Q rest (a.put o.dst (.tuple #[])) w'):wpList Tryz.prog ops Q (o::rest) a w:=by
 refine wpList_plain hg fun K hK=> ?_
 obtain⟨ZL,hrun⟩:=run_clear_sub w o.type g i n c cs hr hs;unfold Oper.wp execOp;simp only[ho,resolve,invoke,blt_clear,Sem.run_bind,Sem.run_pure,Result.andThen_ok,List.map_toArray,List.map_cons,List.map_nil,hx,hrun];exact hK _ _ (h ZL _ (hr.setCells ZL i) (Keeps.setCells ZL i w))
/-- Where the loop stands. -/
structure DfAt (q:Sb→Bool)(L M:List Sb)(w wr:World)(B g c bx i j:Nat)(who:ByteArray):Prop where
 dl:DlAt q L M i j
 lt:i < j
 own:OwnN wr B 25 3 sbC (.slice (some ⟨g,0,none⟩) M.length c) M
 bx:Row wr bx 9 #[.string who]
 k:Keeps w wr [g]
set_option maxRecDepth 100000 in
set_option maxHeartbeats 4000000 in
theorem mtDel_any (w:World)(B bx:Nat)(A:Option Addr)(c:Nat)(L:List Sb)(who:List UInt8)(ho:OwnN w B 25 3 sbC (.slice A L.length c) L)(hl:L.length≤100000)(hr:Row w bx 9 #[.string ⟨who.toArray⟩]):
  Calls Tryz.prog 59 #[.slice A L.length c,ofFn bx] w fun e w' =>∃v,e= .returned v∧OwnN w' B 25 3 sbC v (mtOf L who)∧Keeps w w' (Value.slice A L.length c).ownBlock.toList:=by
 have HI:=zh (mtIdx_any w bx A c L (fun x=> !(x.c==who)) (ho.at_ encSb) (by omega) (fun W hk x _=>mtOfNot_any W x bx who ((hr.keeps hk).cell 0) ((hr.keeps hk).lt)));have HO:=zh ho;have HR:=zh hr;have HL:=zh hl
 rcases fIdx_split (fun x:Sb=> !(x.c==who)) L with⟨h1,h2⟩ | ⟨j0,hj0,h1,h2,h3⟩
 ·have HF:=zh (show mtOf L who=L from by
   unfold mtOf;rw[List.filter_eq_self];intro x hx;have:=List.all_eq_true.1 h2 x hx
   simpa using this)
  rw[h1]at HI;clear ho hl hr h1 h2
  go_enter Tryz.func59,Tryz.ntmps59
  go_wp2_with fail
  refine HI.out.mono ?_;rintro e w1 ⟨rfl,hk⟩;have HK:=zh hk;clear hk HI
  go_wp2_with fail
  go_ret;exact⟨_,rfl,by rw[HF.out];exact HO.out.keeps HK.out,HK.out.weaken (by simp)⟩
 ·obtain⟨g,rfl,hc,hBg⟩:=own_at_some ho (by omega)
  have HCB:=zh (And.intro hc hBg);have HD0:=zh (show DlAt (fun x=>x.c==who) L L j0 (j0+1)from⟨rfl,by omega,by
   rw[List.take_succ_eq_append_getElem hj0,List.filter_append];have e1:(L.take j0).filter (fun x=>x.c==who)=L.take j0:=by
    rw[List.filter_eq_self];intro x hx;have:=List.all_eq_true.1 h2 x hx
    simpa using this
   rw[e1];simp only[Bool.not_eq_true']at h3;simp[h3],rfl⟩)
  rw[h1]at HI;have HJ0:=zh hj0;obtain⟨WH,hWH⟩:∃S:ByteArray,(⟨who.toArray⟩:ByteArray)=S:=⟨_,rfl⟩;have HWH:=zh hWH;rw[hWH]at HR;have hl2:=hl;clear ho hr h1 h2 h3 hc hBg hWH hl
  go_enter Tryz.func59,Tryz.ntmps59
  go_wp2_with fail
  refine HI.out.mono ?_;rintro e w1 ⟨rfl,hk⟩;have HS:=zh (show DfAt (fun x=>x.c==who) L L w w1 B g c bx j0 (j0+1) WH from⟨HD0.out,by omega,HO.out.keeps hk,HR.out.keeps hk,hk.weaken (by simp)⟩);clear hk HI HD0;have hj1:(((j0:Nat):Int)== -1)=false:=by simp only[beq_eq_false_iff_ne];omega
  go_wp2_with fail
  clear hj1
  go_loopw [5,6] (fun vi vj wr=>∃i j:Nat,j≤L.length∧i≤L.length∧vi= .int .i64 i∧vj= .int .i64 j∧Hid (∃M,DfAt (fun x=>x.c==who) L M w wr B g c bx i j WH)) (fun _ vj _=>L.length - (intOf vj).toNat)
  case atStart=>exact⟨j0,j0+1,by omega,by omega,by go_num,by go_num,zh ⟨L,HS.out⟩⟩
  case round=>
   obtain⟨i,j,hj,hi,rfl,rfl,HM⟩:=hrel;obtain⟨M,HA⟩:∃M,Hid (DfAt (fun x=>x.c==who) L M w wr B g c bx i j WH):=by
    obtain⟨M,h⟩:=HM.out;exact⟨M,zh h⟩
   have hij:=HA.out.lt
   by_cases hjl:j < L.length
   ·have HML:=zh HA.out.dl.len
    have HGT:=zh (HA.out.dl.get hjl);obtain⟨⟨xf,xc,xq⟩,hx⟩:∃x,L[j]=x:=⟨_,rfl⟩;rw[hx]at HGT;have HCC:=zh (show∀k,k < 3→wr.cell? ⟨g,j*3+k,none⟩=(sbC ⟨xf,xc,xq⟩)[k]? from fun k hk=>by
     obtain⟨b',o',e,_,hc'⟩:=(HA.out.own.at_ encSb).at_ (i:=j) (by rw[HML.out];exact hjl);injection e with e
     injection e with e1 e2
     subst e1 e2;have h:=hc' k hk;rw[HGT.out,Nat.zero_add]at h;exact h)
    obtain⟨X,hX⟩:∃S:ByteArray,(⟨xf.toArray⟩:ByteArray)=S:=⟨_,rfl⟩;obtain⟨Y,hY⟩:∃S:ByteArray,(⟨xc.toArray⟩:ByteArray)=S:=⟨_,rfl⟩;have HXY:=zh (And.intro hX hY);have c0:=HCC.out 0 (by omega);have c1:=HCC.out 1 (by omega);have c2:=HCC.out 2 (by omega);simp only[sbC,zgz,zgs,Nat.add_zero,hX,hY]at c0 c1 c2;have HX:=zh hx;obtain⟨w5,hw5⟩:∃w5,wr.alloc (.cells #[.string X,.string Y,.int .i64 xq] 25)=w5:=⟨_,rfl⟩;have HK5:=zh (show Keeps wr w5 []by rw[←hw5];exact Keeps.alloc _ _);have HR5:=zh (show Row w5 wr.heap.size 25 #[.string X,.string Y,.int .i64 xq]by rw[←hw5];exact Row.new _ _ _);have HCL:=zh (show Calls Tryz.prog 60 #[.agg #[.string X,.string Y,.int .i64 xq],ptr0 bx] w5 _ from by
     have hb:=HA.out.bx.keeps HK5.out;rw[←HWH.out]at hb;have h:=mtOfNot_any w5 ⟨xf,xc,xq⟩ bx who (hb.cell 0) hb.lt;unfold sbV at h;rw[HXY.out.1,HXY.out.2]at h;exact h)
    obtain⟨z,hz⟩:∃z,(xc==who)=z:=⟨_,rfl⟩;have HZ:=zh hz;simp only[hz]at HCL;clear hx hX hY HM hz;have d0:=HR5.out.cell 0;have d1:=HR5.out.cell 1;have d2:=HR5.out.cell 2;simp only[zga,zgz,zgs]at d0 d1 d2
    go_upto_region 8 with fail
    try rw[hw5]
    clear hw5 c0 c1 c2
    go_wp2_with fail
    refine HCL.out.mono ?_;rintro e w6 ⟨rfl,hk6⟩;have HK6:=zh (HK5.out.then_ hk6);have HR6:=zh (HR5.out.keeps hk6);clear hk6 HCL d0 d1 d2;have hl3:=hl2
    cases z with
    | false=>
     have HNX:=zh (show DfAt (fun x=>x.c==who) L M w w6 B g c bx i (j+1) WH from⟨HA.out.dl.skip hjl (by rw[HX.out];exact HZ.out),by omega,HA.out.own.keeps HK6.out,HA.out.bx.keeps HK6.out,HA.out.k.trans (HK6.out.weaken (T:= []) (by simp)) (fun y hy _=>by cases hy)⟩)
     go_wp2_with fail
     exact⟨⟨i,j+1,by omega,by omega,by go_num,by go_num,zh ⟨M,HNX.out⟩⟩,by simp[intOf];omega⟩
    | true=>
     have HO6:=zh (HA.out.own.keeps HK6.out);obtain⟨Z,hZ1,hZ2,hZ3,hZ4⟩:=HO6.out.put encSb (i:=i) (by rw[HML.out];omega) ⟨xf,xc,xq⟩;have HZZ:=zh (And.intro hZ1 (And.intro hZ2 (And.intro hZ3 hZ4)));have hil:i < L.length:=by omega
     clear hZ1 hZ2 hZ3 hZ4
     go_upto_region 9 with fail
     refine wp_region_lit ?_;refine wpList_val (.slice (some ⟨g,0,none⟩) L.length c) rfl (by kernel_rfl) ?_;refine wpList_val (.int .i64 (i:Nat)) rfl (by kernel_rfl) ?_;refine wpList_loadg (by kernel_rfl) 25 (.tmp 7) rfl wr.heap.size 0 (by kernel_rfl) [.string X,.string Y,.int .i64 xq] _ (fun k v hv=>by
      rw[Nat.zero_add,HR6.out.cell,←hv,zga]) Tryz.underlying25 rfl (by kernel_rfl) ?_
     refine wpList_val (.pointer (some ⟨g,i*3,none⟩)) rfl (exec_at 22 (.tmp 30) (.tmp 31) g 0 L.length c i 3 (i*3) hil (Nat.zero_add _) rfl (by kernel_rfl) (by kernel_rfl)) ?_;refine wpList_store_mid rfl (.tmp 33) (.tmp 32) 25 25 rfl g (i*3) #[.string X,.string Y,.int .i64 xq] Z HZZ.out.1 (by kernel_rfl) HZZ.out.2.1 (by simp[Value.oneCell']) (by kernel_rfl) (by kernel_rfl) ?_;intro w13 hr13 hk13;have HNX:=zh (show DfAt (fun x=>x.c==who) L (M.set i ⟨xf,xc,xq⟩) w w13 B g c bx (i+1) (j+1) WH from
      ⟨by have h:=HA.out.dl.keep hjl (by rw[HX.out];exact HZ.out);rw[HX.out]at h;exact h,by omega,by
       have h:=HZZ.out.2.2.2 w13 (by
        rw[show sbC ⟨xf,xc,xq⟩= [.string X,.string Y,.int .i64 xq]by rw[←HXY.out.1,←HXY.out.2];rfl];exact hr13)
       rw[List.length_set];exact h,(HA.out.bx.keeps HK6.out).keep hk13 (fun e=>by
        have hb:=HA.out.bx.keeps HK6.out;rw[List.mem_singleton.1 e]at hb;exact hb.ne_type HZZ.out.1 (by decide) rfl),(HA.out.k.trans (HK6.out.weaken (T:= []) (by simp)) (fun y hy _=>by cases hy)).trans hk13 (fun y hy _=>hy)⟩)
     clear hr13 hk13;simp only[Act.put,zsa,zsc,zsz]
     go_wp2_with fail
     exact⟨⟨i+1,j+1,by omega,by omega,by go_num,by go_num,zh ⟨_,HNX.out⟩⟩,by simp[intOf];omega⟩
   ·obtain rfl:j=L.length:=by omega
    have HML:=zh HA.out.dl.len;obtain⟨cs,hcs,hcz,hfr⟩:=HA.out.own.front (i:=i) (by rw[HML.out];omega);have HCS:=zh (And.intro hcs (And.intro hcz hfr));have HRES:=zh (show M.take i=mtOf L who from by
     have h:=HA.out.dl.fil;rw[List.take_length]at h;exact h)
    clear hcs hcz hfr HM
    go_upto_region 11 with fail
    refine wp_region_lit ?_;refine wpList_val (.slice (some ⟨g,0,none⟩) L.length c) rfl (by kernel_rfl) ?_;refine wpList_val (.int .i64 (i:Nat)) rfl (by kernel_rfl) ?_;refine wpList_val (.slice (some ⟨g,i*3,none⟩) (L.length - i) (c - i)) rfl (by
     rw[sbSliceL (x:= .tmp 36) (lo:= .tmp 37) (a:=some ⟨g,0,none⟩) (len:=L.length) (cap:=c) (l:=i) (kl:= .i64) rfl (by kernel_rfl) (by kernel_rfl) hi,if_neg (by have:=HCB.out.1;omega),Option.map_some,addr_at,Nat.zero_add]) ?_
    refine wpList_clear rfl (.tmp 38) rfl g (i*3) (L.length - i) (c - i) cs (by kernel_rfl) HCS.out.1 (by have:=HCS.out.2.1;have:=HML.out;omega) ?_;intro ZL w9 hr9 hk9;have HRO:=zh (HCS.out.2.2 w9 ZL hr9);have HK9:=zh (HA.out.k.trans hk9 (fun y hy _=>hy));rw[HRES.out]at HRO;clear hr9 hk9;have hic:i≤c:=by have:=HCB.out.1;omega
    simp only[Act.put,zsa,zsc,zsz]
    go_wp2_with fail
    go_ret;exact⟨_,rfl,HRO.out,HK9.out⟩

theorem drop_fold (who:List UInt8)(hc:mtCl who=true):∀(T L:List Sb),(∀t∈T,tFilter t.f=true)→T.foldl (fun L x=>(mtDropA L x.f who).1) L=L.filter fun x=>T.all fun t=> !(x.f==t.f && x.c==who)
 | [],L,_=>(List.filter_eq_self.2 (by simp)).symm
 | t::T,L,h=>by
  rw[List.foldl_cons,dropA_ok (h t (by simp)) hc,drop_fold who hc T _ (fun x hx=>h x (by simp[hx]))];show(mtDrop L t.f who).filter _=_;unfold mtDrop;rw[List.filter_filter];refine List.filter_congr fun x _=> ?_
  rw[List.all_cons];unfold sbIs;rw[Bool.and_comm]
theorem drop_of {L:List Sb}(hL:MtOk L){who:List UInt8}(hc:mtCl who=true):(mtOf L who).foldl (fun L x=>(mtDropA L x.f who).1) L=mtLeave L who:=by
 rw[drop_fold who hc (mtOf L who) L (fun t ht=>(hL.ok t (List.mem_filter.1 ht).1).1)];unfold mtLeave;refine List.filter_congr fun x hx=> ?_
 by_cases h:x.c=who
 ·subst h
  have:((mtOf L x.c).all fun t=> !(x.f==t.f && x.c==x.c))=false:=by
   rw[List.all_eq_false];exact⟨x,List.mem_filter.2 ⟨hx,by simp⟩,by simp⟩
  rw[this];simp
 ·have:((mtOf L who).all fun t=> !(x.f==t.f && x.c==who))=true:=by
   rw[List.all_eq_true];intro t _;simp[h]
  rw[this];simp[h]
section
variable {w W:World} {d:Nat} {L:List Sb}
set_option maxRecDepth 100000 in
theorem BkIn.of (h:BkIn w W d L)(who:List UInt8):Calls Tryz.prog 23 #[ptr0 d,.string ⟨who.toArray⟩] W fun e w' =>∃v,e= .returned v∧OwnN w' W.heap.size 25 3 sbC v (mtOf L who)∧Keeps W w' []:=by
 have H:=zh h;have HLE:=zh h.ok.le;obtain⟨C,hC⟩:∃S:ByteArray,(⟨who.toArray⟩:ByteArray)=S:=⟨_,rfl⟩;have HC:=zh hC;obtain⟨W1,hW1⟩:∃W1,W.alloc (.cells #[.string C] 9)=W1:=⟨_,rfl⟩;have HK1:=zh (show Keeps W W1 []by rw[←hW1];exact Keeps.alloc _ _);have HR1:=zh (show Row W1 W.heap.size 9 #[.string C]by rw[←hW1];exact Row.new _ _ _);rw[hC];clear h hC
 go_enter Tryz.func23,Tryz.ntmps23
 go_upto_region 1 with fail
 try rw[hW1]
 clear hW1
 go_wp2_with fail
 refine(H.out.keeps HK1.out).all.mono ?_;rintro e w2 ⟨v,rfl,ho,hk⟩;obtain⟨A,c,rfl⟩:=OwnN.slice ho;have HD:=zh (mtDel_any w2 W1.heap.size W.heap.size A c L who ho (by have:=HLE.out;omega) (by rw[HC.out];exact HR1.out.keeps hk));have HO:=zh (And.intro ho hk);clear ho hk
 go_wp2_with fail
 refine HD.out.mono ?_;rintro e w3 ⟨v,rfl,ho3,hk3⟩;have HO3:=zh (And.intro ho3 hk3);clear ho3 hk3 HD
 go_wp2_with fail
 go_ret;have h1:=HK1.out.size;exact⟨_,rfl,OwnN.low HO3.out.1 h1,(HK1.out.then_ HO.out.2).trans HO3.out.2 fun y hy hlt=>by
  have:=(HO.out.1.rows y hy).1;omega⟩
/-- A book that entries are dropped from, and what stands beside it. -/
structure BkDr (w:World)(d:Nat)(B:World→List Sb→Prop):Prop where
 bk:∀{W L},B W L→BkIn w W d L
 keeps:∀{W W' L},B W L→Keeps W W' []→B W' L
 drop:∀{W L},B W L→∀f c:List UInt8,f.length≤50000→c.length≤50000→Calls Tryz.prog 19 #[ptr0 d,.string ⟨f.toArray⟩,.string ⟨c.toArray⟩] W fun e w' =>e= .returned (.tuple #[.bool (mtDropA L f c).2.1,.int .i64 (mtDropA L f c).2.2])∧B w' (mtDropA L f c).1∧Else W w'
set_option maxRecDepth 100000 in
set_option maxHeartbeats 4000000 in
theorem leaveB_any {B:World→List Sb→Prop}(BO:BkDr w d B)(h:B W L)(who:List UInt8)(hw:who.length≤50000):Calls Tryz.prog 27 #[ptr0 d,.string ⟨who.toArray⟩] W fun e w' =>e= .returned (.tuple #[.int .i64 ((mtLeaveA L who).2.1:Nat),.int .i64 (mtLeaveA L who).2.2])∧B w' (mtLeaveA L who).1∧Else W w' :=by
 have H:=zh h;have HOK:=zh (BO.bk h).ok;have HBO:=zh BO;have HN:=zh (BO.bk h).none_;have HCL:=zh (mtClient_any W who (by omega));have HOF:=zh ((BO.bk h).of who);have HW:=zh hw;obtain⟨C,hC⟩:∃S:ByteArray,(⟨who.toArray⟩:ByteArray)=S:=⟨_,rfl⟩;have HC:=zh hC;rw[hC]at HCL HOF;rw[hC];clear h hC BO hw
 cases hcl:mtCl who with
 | false=>
  have HE:=zh (show mtLeaveA L who=(L,0,2)by unfold mtLeaveA;rw[if_pos hcl]);rw[hcl]at HCL;clear hcl
  go_enter Tryz.func27,Tryz.ntmps27
  go_wp2_with fail
  refine HN.out.mono ?_;rintro e w1 ⟨rfl,rfl⟩
  go_wp2_with fail
  refine HCL.out.mono ?_;rintro e w2 ⟨rfl,rfl⟩
  go_wp2_with fail
  go_ret2
  rw[HE.out];exact⟨rfl,H.out,fun _ _ _ h _ _=>h⟩
 | true=>
  have HE:=zh (show mtLeaveA L who=(mtLeave L who,(mtOf L who).length,0)by unfold mtLeaveA;rw[if_neg (by rw[hcl];simp)]);have HDF:=zh (drop_of HOK.out hcl);rw[hcl]at HCL;clear hcl
  go_enter Tryz.func27,Tryz.ntmps27
  go_wp2_with fail
  refine HN.out.mono ?_;rintro e w1 ⟨rfl,rfl⟩
  go_wp2_with fail
  refine HCL.out.mono ?_;rintro e w2 ⟨rfl,rfl⟩;clear HCL HN
  go_wp2_with fail
  refine HOF.out.mono ?_;rintro e w3 ⟨v,rfl,ho,hk⟩;obtain⟨A,c,rfl⟩:=OwnN.slice ho;have HTL:=zh (show(mtOf L who).length≤4096 from Nat.le_trans (List.length_filter_le _ _) HOK.out.le);have HTV:=zh (show∀x∈mtOf L who,x.f.length≤50000 from fun x hx=>by
   have h:=(HOK.out.ok x (List.mem_filter.1 hx).1).1;unfold tFilter tSaid at h;simp at h;omega)
  obtain⟨T,hT⟩:∃T,mtOf L who=T:=⟨_,rfl⟩;rw[hT]at HTL HTV ho HDF;simp only[hT];have HT:=zh hT;have HL3:=zh (ho.at_ encSb);have HB3:=zh (HBO.out.keeps H.out hk);have HK3:=zh hk;have htl:=HTL.out;clear ho hk hT HOF
  go_wp2_with fail
  go_loopw [21] (fun i wr=>∃j:Nat,j≤T.length∧i= .int .i64 j∧Hid (B wr ((T.take j).foldl (fun L x=>(mtDropA L x.f who).1) L)∧Else w3 wr)) (fun i _=>T.length - (intOf i).toNat)
  case atStart=>exact⟨0,by omega,rfl,zh ⟨HB3.out,fun _ _ _ h _ _=>h⟩⟩
  case round=>
   obtain⟨j,hj,rfl,HR⟩:=hrel
   by_cases hjl:j < T.length
   ·obtain⟨g,o,rfl,_,hcc⟩:=(HR.out.2.list HL3.out (by decide) (by decide)).at_ hjl
    have HTF:=zh (HTV.out _ (List.getElem_mem hjl));have HTS:=zh (show(T.take (j+1)).foldl (fun L x=>(mtDropA L x.f who).1) L=(mtDropA ((T.take j).foldl (fun L x=>(mtDropA L x.f who).1) L) T[j].f who).1 by
     rw[List.take_succ_eq_append_getElem hjl,List.foldl_append];rfl)
    obtain⟨⟨xf,xc,xq⟩,hx⟩:∃x,T[j]=x:=⟨_,rfl⟩;rw[hx]at hcc HTF HTS;obtain⟨X,hX⟩:∃S:ByteArray,(⟨xf.toArray⟩:ByteArray)=S:=⟨_,rfl⟩;obtain⟨Y,hY⟩:∃S:ByteArray,(⟨xc.toArray⟩:ByteArray)=S:=⟨_,rfl⟩;have c0:=hcc 0 (by omega);have c1:=hcc 1 (by omega);have c2:=hcc 2 (by omega);simp only[sbC,zgz,zgs,Nat.add_zero,hX,hY]at c0 c1 c2;obtain⟨w5,hw5⟩:∃w5,wr.alloc (.cells #[.string X,.string Y,.int .i64 xq] 25)=w5:=⟨_,rfl⟩;have HK5:=zh (show Keeps wr w5 []by rw[←hw5];exact Keeps.alloc _ _);have HR5:=zh (show Row w5 wr.heap.size 25 #[.string X,.string Y,.int .i64 xq]by rw[←hw5];exact Row.new _ _ _);have HDR:=zh (show Calls Tryz.prog 19 #[ptr0 d,.string X,.string C] w5 _ from by
     have h:=HBO.out.drop (HBO.out.keeps HR.out.1 HK5.out) xf who HTF.out HW.out;rw[hX,HC.out]at h;exact h)
    clear hx hX hY hcc;have d0:=HR5.out.cell 0;simp only[zga,zgz]at d0
    go_upto_region 9 with fail
    try rw[hw5]
    clear hw5 c0 c1 c2
    go_wp2_with fail
    refine HDR.out.mono ?_;rintro e w6 ⟨rfl,hb6,he6⟩;have HB6:=zh hb6;rw[←HTS.out]at HB6;have HE6:=zh (show Else w3 w6 from fun g t cs h h1 h2=>he6 g t cs ((HR.out.2 g t cs h h1 h2).keeps HK5.out) h1 h2);clear hb6 he6 HDR d0
    go_wp2_with fail
    exact⟨⟨j+1,by omega,by go_num,zh ⟨HB6.out,HE6.out⟩⟩,by simp[intOf];omega⟩
   ·obtain rfl:j=T.length:=by omega
    have HBE:=zh (show B wr (mtLeave L who)from by
     have h:=HR.out.1;rw[List.take_length,HDF.out]at h;exact h)
    have HEE:=zh (show Else w2 wr from fun g t cs h h1 h2=>HR.out.2 g t cs (h.keeps HK3.out) h1 h2);clear HR
    go_wp2_with fail
    go_ret2
    rw[HE.out];exact⟨by rw[HT.out];rfl,HBE.out,HEE.out⟩
theorem BkIn.leave (h:BkIn w W d L)(hm:MaxL w)(who:List UInt8)(hw:who.length≤50000):Calls Tryz.prog 27 #[ptr0 d,.string ⟨who.toArray⟩] W fun e w' =>e= .returned (.tuple #[.int .i64 ((mtLeaveA L who).2.1:Nat),.int .i64 (mtLeaveA L who).2.2])∧BkIn w w' d (mtLeaveA L who).1∧Else W w' :=
 leaveB_any (B:=fun W L=>BkIn w W d L) ⟨fun h=>h,fun h hk=>h.keeps hk,fun h f c hf hc=>h.drop hm f c hf hc⟩ h who hw
end
end Go.Proofs.YtoadlafdeoklbaaGreatDoor
