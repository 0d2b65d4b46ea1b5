/- Package packet: Parse. -/
import Derived.Test.YtahbikfbjenfpaaGreatDoorPa35

namespace Go.Proofs.YtahbikfbjenfpaaGreatDoor
open Go.RowKit Go.Shelf

theorem exec_callv {P:Program}{a:Act}{o:Oper}{W:World}(i:FuncId)(cap args:Array Value){c:Call}(ho:o.op= .call c)(hr:∀(args:Array Value) (w:World),(callFunc i args).run P w= .ok (.enter i args) w)
  (he:(resolve a.eval c o.type).run P W= .ok {target:= .fn (.func i) cap,args:=args} W):(execOp a.eval o).run P W= .ok (.enter i (args++cap)) W:=by
 unfold execOp;simp only[ho,Sem.run_bind,he,Result.andThen_ok];exact hr _ _
theorem wpList_want {P:Program}{Q:Exit→Act→World→Prop}{ops:Array Oper}{o:Oper}{rest:List Oper}{a:Act}{w:World}(hw:Region.wanted o (yielded ops a.tmps)=true)(h:∀K:Act→World→Prop,(∀a w,wpList P ops Q rest a w→K a w)→o.wp P a w K Q):wpList P ops Q (o::rest) a w:=by
 unfold wpList;rw[if_pos hw];exact .inl (h _ (fun _ _ h=>h))
theorem wpList_valg {P:Program}{Q:Exit→Act→World→Prop}{ops:Array Oper}{o:Oper}{rest:List Oper}{a:Act}{w:World}(v:Value)(hw:Region.wanted o (yielded ops a.tmps)=true)(h:(execOp a.eval o).run P w= .ok (.value v) w)(hk:wpList P ops Q rest (a.put o.dst v) w):wpList P ops Q (o::rest) a w:=
 wpList_want hw fun K hK=>by unfold Oper.wp;rw[h];exact hK _ _ hk
theorem wpList_loadg {P:Program}{Q:Exit→Act→World→Prop}{ops:Array Oper}{op:Oper}{rest:List Oper}{a:Act}{w:World}(hw:Region.wanted op (yielded ops a.tmps)=true)(ty:TypeId)(x:Operand)(ho:op.op= .load ty x)
  (b o:Nat) (hx:a.eval x= .pointer (some ⟨b,o,none⟩)) (cs:List Value) (d:TypeDesc) (hc:w.rangeAt b o cs)
  (hu:P.underlying ty=some d) (hd:d.isRow=true) (hi:(P.info? ty).map (·.size)=some cs.length)
  (h:wpList P ops Q rest (a.put op.dst (.agg cs.toArray)) w):wpList P ops Q (op::rest) a w:=
 wpList_want hw fun _ hK=>wp_load_mid ty x ho b o hx cs d hc hu hd hi (hK _ _ h)
theorem wpList_callg {P:Program}{Q:Exit→Act→World→Prop}{ops:Array Oper}{o:Oper}{rest:List Oper}{a:Act}{w:World}(i:FuncId)(args:Array Value)(hw:Region.wanted o (yielded ops a.tmps)=true)(he:(execOp a.eval o).run P w= .ok (.enter i args) w)
  (hc:Calls P i args w fun e w' =>(∃v,e= .returned v∧wpList P ops Q rest (a.put o.dst v) w')∨(∃ps,e= .panicked ps∧Q (.panic ps) a w')):wpList P ops Q (o::rest) a w:=by
 refine wpList_want hw fun K hK=> ?_
 unfold Oper.wp;rw[he];refine hc.mono ?_;rintro e w' (⟨v,rfl,h⟩ | ⟨ps,rfl,h⟩)
 ·exact hK _ _ h
 ·exact h
set_option maxRecDepth 100000 in
theorem and_15:∀n < 256,bits .and .u8 (n:Nat) 15=((n % 16:Nat):Int):=by decide
theorem PkT.farR {w w' :World}{p:Pk}{sw sc sf:Value}{b:Nat}{cs:Array Value}(h:PkT w p sw sc sf)(hr:Row w b 130 cs)(hk:Keeps w w' [b]):PkT w' p sw sc sf:=by
 obtain⟨⟨A,a,e1,h1⟩,⟨B,b',e2,h2⟩,⟨C,c,e3,h3⟩⟩:=h;exact⟨⟨A,a,e1,h1.box hk hr (by decide)⟩,⟨B,b',e2,h2.box hk hr (by decide)⟩,⟨C,c,e3,h3.box hk hr (by decide)⟩⟩
theorem PkT.farE {w w' :World}{p:Pk}{sw sc sf:Value}{b:Nat}{cs:Array Value}(h:PkT w p sw sc sf)(hr:Row w b 33 cs)(hk:Keeps w w' [b]):PkT w' p sw sc sf:=by
 obtain⟨⟨A,a,e1,h1⟩,⟨B,b',e2,h2⟩,⟨C,c,e3,h3⟩⟩:=h;exact⟨⟨A,a,e1,h1.box hk hr (by decide)⟩,⟨B,b',e2,h2.box hk hr (by decide)⟩,⟨C,c,e3,h3.box hk hr (by decide)⟩⟩
theorem ShL.rowsP {w w' :World}{fl:Int}{hs my wr rd:FuncId}{v:Value}(h:ShL w fl hs my wr rd v)(hk:∀b t cs,29≠t→Row w b t cs→Row w' b t cs):ShL w' fl hs my wr rd v:=by
 obtain⟨b1,b2,b3,b4,b5,e,⟨h1,h2,h3⟩,h4,h5⟩:=h;exact⟨b1,b2,b3,b4,b5,e,⟨hk _ _ _ (by decide) h1,hk _ _ _ (by decide) h2,hk _ _ _ (by decide) h3⟩,hk _ _ _ (by decide) h4,hk _ _ _ (by decide) h5⟩
theorem Sh.rowsP {w w' :World}{k:Nat}{v:Value}(h:Sh w k v)(hk:∀b t cs,29≠t→Row w b t cs→Row w' b t cs):Sh w' k v:=by
 unfold Sh at h ⊢
 split
 ·rename_i e;rw[if_pos e]at h;exact h
 rename_i e1;rw[if_neg e1]at h
 split
 ·rename_i e;rw[if_pos e]at h;exact h
 rename_i e2;rw[if_neg e2]at h
 split
 ·rename_i e;rw[if_pos e]at h;exact h
 rename_i e3;rw[if_neg e3]at h
 split
 ·rename_i e;rw[if_pos e]at h;exact ShL.rowsP h hk
 rename_i e4;rw[if_neg e4]at h
 split
 ·rename_i e;rw[if_pos e]at h;exact ShL.rowsP h hk
 rename_i e5;rw[if_neg e5]at h
 split
 ·rename_i e;rw[if_pos e]at h;exact ShL.rowsP h hk
 rename_i e6;rw[if_neg e6]at h
 split
 ·rename_i e;rw[if_pos e]at h;exact h
 rename_i e7;rw[if_neg e7]at h
 split
 ·rename_i e;rw[if_pos e]at h;exact ShL.rowsP h hk
 ·rename_i e;rw[if_neg e]at h;exact ShL.rowsP h hk
theorem pub_q {f:Nat}{l t:List UInt8}{p:Pk}(h:rdPub f l=some (p,t)):0≤p.q∧p.q≤3:=by
 unfold rdPub at h;rw[Option.bind_eq_some_iff]at h;obtain⟨a,_,h⟩:=h
 split at h
 ·rw[Option.bind_eq_some_iff]at h
  obtain⟨i,_,h⟩:=h;injection h with h
  injection h with h1 h2
  subst h1;simp only;omega
 ·injection h with h
  injection h with h1 h2
  subst h1;simp only;omega
theorem ps_none {p:Pk}:¬PkIs [] p:=fun h=>by have:=h.2;unfold pkRaw at this;cases this
theorem ps_one {x:UInt8}{p:Pk}:¬PkIs [x] p:=fun h=>by
 obtain⟨s,h1,h2,h3,_⟩:=pk_parse_no h;simp at h2;omega
theorem lies_drop {w:World}{B bk o:Nat}{xs:List Value}(h:Lies w B (some ⟨bk,o,none⟩) xs)(k:Nat):Lies w B (some ⟨bk,o+k,none⟩) (xs.drop k):=fun hn=>by
 obtain⟨b',o',e,h1,h2⟩:=h (by rw[List.length_drop]at hn;omega);simp at e;obtain⟨rfl,rfl⟩:=e;exact⟨_,_,rfl,h1,fun i u hu=>by rw[Nat.add_assoc];exact h2 _ _ (by rw[List.getElem?_drop]at hu;exact hu)⟩
set_option maxRecDepth 100000 in
set_option maxHeartbeats 8000000 in
theorem pkParse_any (w:World)(v:Value)(b:List UInt8)(hM:MaxL w)(hb:b.length≤50000)(hB:Bytes w w.heap.size v b):Calls Tryz.prog 14 #[v] w (PsPost w b):=by
 have hmf:∀(fn:Fn) (first cap:Array Value) (w:World),(Instr.makeFunc fn first cap).run Tryz.prog w= .ok (.func fn first cap) w:=fun _ _ _ _=>rfl
 obtain⟨W0,hW0⟩:∃W',(w.alloc (.cells pkZC 29)).alloc (.cells #[.int .i64 0] 33)=W' :=⟨_,rfl⟩;have hk0:Keeps w W0 []:=by rw[←hW0];exact(Keeps.alloc _ _).then_alloc _
 have hr1:Row W0 w.heap.size 29 pkZC:=by rw[←hW0];exact(Row.new w _ _).alloc _
 have hr2:Row W0 (w.heap.size+1) 33 #[.int .i64 0]:=by
  rw[←hW0];have:=Row.new (w.alloc (.cells pkZC 29)) 33 #[.int .i64 0];rw[show(w.alloc (.cells pkZC 29)).heap.size=w.heap.size+1 by simp]at this;exact this
 have HB0:=zh ((hB.below (hk0.below (Nat.le_refl _) (by simp))).mono hk0.size);have HBW:=zh (fun(W' :World) (hk:Keeps w W' [])=>((hB.below (hk.below (Nat.le_refl _) (by simp))).mono hk.size:Bytes W' W'.heap.size v b));obtain⟨A,c,rfl,hc,hnil,hcm,hl2,hL⟩:=hB;have HLW:=zh (show∀W',Keeps w W' []→Lies W' W'.heap.size A (b.map byteV)from fun W' hk=>by
  obtain⟨A1,c1,e1,_,_,_,_,h1⟩:=HBW.out W' hk;injection e1 with eA eN ec
  subst eA;exact h1)
 clear hL hnil hl2 HBW
 go_enter_defers Tryz.func14,Tryz.ntmps14
 go_upto_region 2 with fail
 try rw[hW0]
 clear hW0;have HM:=zh hM;obtain⟨B,hB⟩:∃B,w.heap.size=B:=⟨_,rfl⟩;rw[hB]at hr1 hr2 ⊢
 have ST:=zh (show PsSt w W0 B pkZC (.int .i64 0)from⟨hk0,hr1,hr2,by omega,rfl⟩);clear hk0 hr1 hr2 hB hM
 rcases b with _ | ⟨x,_ | ⟨y,l⟩⟩
 ·skip
  go_wp2_with (go_at_call 30;refine(pvMust_no _).mono ?_;rintro e w' ⟨rfl,rfl⟩)
  exact ps_dies _ _ B ST.out (fun _=>ps_none) rfl rfl
 ·skip
  go_wp2_with (go_at_call 30;refine(pvMust_no _).mono ?_;rintro e w' ⟨rfl,rfl⟩)
  exact ps_dies _ _ B ST.out (fun _=>ps_one) rfl rfl
 ·obtain⟨L,hLd⟩:∃L,y::l=L:=⟨_,rfl⟩
  have HL1:=zh (show 1≤L.length by rw[←hLd];simp);have HLD:=zh hLd;rw[hLd]at hb hc HB0 HLW ⊢
  clear hLd;obtain⟨N,hN⟩:∃N,(x::L).length=N:=⟨_,rfl⟩;have HNN:=zh (show N=L.length+1 from by rw[←hN];rfl);rw[hN]at hb hc HB0 ⊢
  clear hN;have hge:decide ((N:Int)≥2)=true:=by have:=HL1.out;have:=HNN.out;simp;omega
  obtain⟨A0,c0,e0,hc1,hnil,hcm,hl2,hL⟩:=HB0.out;injection e0 with eA eN ec
  subst eA ec;clear eN;obtain⟨bk,o,rfl,hbk,_⟩:=hL (by simp);have HXW:=zh (show∀W',Keeps w W' []→W'.cell? ⟨bk,o,none⟩=some (.int .u8 (x.toNat:Nat))from fun W' hk=>by
   obtain⟨b',o',e,h1,h2⟩:=HLW.out W' hk (by simp);simp at e;obtain⟨rfl,rfl⟩:=e;exact h2 0 _ rfl)
  have HLI:=zh (show Lies W0 W0.heap.size (some ⟨bk,o+1,none⟩) (L.map byteV)from lies_drop hL 1);clear hL hnil hl2 hbk hc1;have hcn:¬c=1:=by have:=HL1.out;have:=HNN.out;omega
  have hn1:¬((N:Int) < 1):=by have:=HNN.out;omega
  go_wp2_with (go_at_call 30;refine(pvMust_yes _).mono ?_;rintro e w' ⟨rfl,rfl⟩)
  rw[show N - 1=L.length by have:=HNN.out;omega];refine(lnRead_any W0 _ (c - 1) L (by have:=HNN.out;omega) (by have:=HNN.out;omega) HLI.out).mono ?_;rintro e w1 ⟨rfl,hk1⟩;replace ST:=zh (ST.out.go hk1);have HK1:=zh hk1;clear hk1;have c3:=ST.out.r2.cell 0;have f3:=ST.out.r2.frozen 0;simp only[zga,zgz]at c3;unfold lnAns
  rcases hln:lnRd L with _ | _ | ⟨n,s⟩
  ·have HNO:=zh (show∀p,¬PkIs (x::y::l) p from fun p h=>by rw[HLD.out]at h;obtain⟨s,h1,_⟩:=pk_parse_no h;rw[hln]at h1;cases h1)
   clear hln;obtain⟨We,hWe⟩:∃W',w1.setCell ⟨B+1,0,none⟩ (.int .i64 250)=W' :=⟨_,rfl⟩;obtain⟨se,ke⟩:=ST.out.err (.int .i64 250);rw[hWe]at se ke;have SE:=zh se;have d3:=se.r2.cell 0;simp only[zga,zgz]at d3;clear se ke
   go_wp2_with (go_at_call 30;refine(pvMust_no _).mono ?_;rintro e w' ⟨rfl,rfl⟩)
   exact ps_dies _ _ B SE.out HNO.out rfl rfl
  ·have HNO:=zh (show∀p,¬PkIs (x::y::l) p from fun p h=>by rw[HLD.out]at h;obtain⟨s,h1,_⟩:=pk_parse_no h;rw[hln]at h1;cases h1)
   clear hln;obtain⟨We,hWe⟩:∃W',w1.setCell ⟨B+1,0,none⟩ (.int .i64 0)=W' :=⟨_,rfl⟩;obtain⟨se,ke⟩:=ST.out.err (.int .i64 0);rw[hWe]at se ke;have SE:=zh se;have d3:=se.r2.cell 0;simp only[zga,zgz]at d3;clear se ke
   go_wp2_with (go_at_call 30;refine(pvMust_no _).mono ?_;rintro e w' ⟨rfl,rfl⟩)
   exact ps_dies _ _ B SE.out HNO.out rfl rfl
  ·obtain⟨g1,g2,g3,g4⟩:=lnRd_sound hln
   have hs4:=lnSize_le n;have HLN:=zh hln;have HSS:=zh (show 1≤s∧s≤4∧s≤L.length∧n < 268435456 by omega);clear hln g1 g2 g3 g4 hs4;obtain⟨We,hWe⟩:∃W',w1.setCell ⟨B+1,0,none⟩ (.int .i64 0)=W' :=⟨_,rfl⟩;obtain⟨se,ke⟩:=ST.out.err (.int .i64 0);rw[hWe]at se ke;have SE:=zh se;have d3:=se.r2.cell 0;simp only[zga,zgz]at d3;have hs0:0 < s:=by have:=HSS.out;omega
   have hw6:wrap64 ((N:Int) - 1 - (s:Int))=(N:Int) - 1 - (s:Int):=IntWalk.wrap64_in _ (by have:=HSS.out;omega);obtain⟨z,hz⟩:∃z,((N:Int) - 1 - (s:Int)==(n:Int))=z:=⟨_,rfl⟩
   cases z with
   | false=>
    have HNO:=zh (show∀p,¬PkIs (x::y::l) p from fun p h=>by
     rw[HLD.out]at h;obtain⟨s',h1,h2,_⟩:=pk_parse_no h;rw[HLN.out]at h1;injection h1 with h1;injection h1 with h1;injection h1 with e1 e2
     subst e2;have:=HNN.out;simp at hz;omega)
    clear se ke
    go_wp2_with (go_at_call 30;refine(pvMust_no _).mono ?_;rintro e w' ⟨rfl,rfl⟩)
    exact ps_dies _ _ B SE.out HNO.out rfl rfl
   | true=>
    have HN2:=zh (show L.length - s=n by have:=HNN.out;simp at hz;omega);clear se;have hx:=HXW.out We SE.out.k;have hx8:=x.toNat_lt
    go_wp2_with (go_at_call 30;refine(pvMust_yes _).mono ?_;rintro e w' ⟨rfl,rfl⟩)
    have ST:=zh (show PsSt w We B pkZC (.int .i64 0)from SE.out);clear SE ke d3 c3 f3 hWe hz hw6 hs0;rw[show((x.toNat:Int) / 16)=((x.toNat / 16:Nat):Int)by omega];obtain⟨kk,hkk⟩:∃kk,x.toNat / 16=kk:=⟨_,rfl⟩;have HKK:=zh (show x.toNat / 16=kk∧kk≤15 by omega);rw[hkk];clear hkk hx hx8;refine(pkShapes_any We).mono ?_;rintro e w2 ⟨bm,rfl,hsh,hk2⟩;have HB1:=zh (show B+1 < w2.heap.size from Nat.lt_of_lt_of_le ST.out.r2.lt hk2.size);replace ST:=zh (ST.out.go hk2);clear hk2
    rcases hsh.look (kk:Int) (by omega) (by have:=HKK.out;omega) true with⟨hi1,hi2,sv,hsv,hlk⟩ | ⟨hni,hlk⟩
    ·rw[if_pos rfl]at hlk
     obtain⟨i1,c1,i2,c2,fv,wv,i5,c5,rfl,K⟩:=pkK ⟨hi1,hi2⟩ hsv;have hone:(#[.func (.func i1) #[] c1,.func (.func i2) #[] c2,fv,wv,.func (.func i5) #[] c5]:Array Value).all (·.oneCell')=true:=by
      rcases K.fl with⟨e,_⟩ | ⟨_,_,e,_⟩ <;> rcases K.wr with⟨e',_⟩ | ⟨_,_,e',_⟩ <;> (subst e e';simp[Value.oneCell'])
     have HKN:=zh K;have HSV:=zh hsv;have HIN:=zh (And.intro hi1 hi2);clear hsh hsv K hi1 hi2
     go_wp2_with (refine wpList_store_row rfl (.tmp 7) (.tmp 48) 56 rfl w2.heap.size #[.func (.func i1) #[] c1,.func (.func i2) #[] c2,fv,wv,.func (.func i5) #[] c5] shZC (Row.new _ _ _) rfl rfl hone rfl rfl ?_;intro w7 r7 k7;refine Hid.out ?_)
     refine zh ?_;replace ST:=zh ((ST.out.go (Keeps.alloc _ _)).goR k7 ST.out.r2.lt);have HKN7:=zh (show Keeps w2 w7 []from(Keeps.alloc _ _).trans k7 (fun y hy hlt=>by simp at hy;omega));have HS7:=zh (show B+1 < w2.heap.size∧w2.heap.size < w7.heap.size from⟨by have:=ST.out.r2.lt;have:=HB1.out;omega,r7.lt⟩);obtain⟨b7,hb7⟩:∃b7,w2.heap.size=b7:=⟨_,rfl⟩;have HB7:=zh (show w2.heap.size=b7 from hb7);rw[hb7]at r7 HS7 ⊢
     have HR7:=zh r7;clear r7 k7 hlk hb7 hone;have hw1:wrap64 (1+(s:Int))=((1+s:Nat):Int):=by rw[IntWalk.wrap64_in _ (by have:=HSS.out;omega)];omega
     have hs1:¬((N:Int) < ((1+s:Nat):Int)):=by have:=HSS.out;have:=HNN.out;omega
     have HDL:=zh (show(L.drop s).length=N - (1+s)by have:=HNN.out;rw[List.length_drop];omega);have HCM:=zh (show N≤c∧c≤maxLen from⟨hc,hcm⟩);obtain⟨R,hR⟩:∃R,L.drop s=R:=⟨_,rfl⟩;have HLR:=zh (show Lies w7 w7.heap.size (some ⟨bk,o+(1+s),none⟩) (R.map byteV)from by
      have:=lies_drop (HLW.out w7 ST.out.k) (1+s);rw[List.map_cons,Nat.add_comm 1 s,zds,←List.map_drop,hR]at this;rw[Nat.add_comm 1 s];exact this)
     rw[hR]at HDL;have HRL:=zh (show R.length=n∧R.length≤50000 by have:=HN2.out;have:=HDL.out;have:=HNN.out;omega);have HRD:=zh hR;clear hR
     by_cases hce:c=1+s
     ·skip
      go_wp2_with (go_at_call 30;refine(pvMust_yes _).mono ?_;rintro e w' ⟨rfl,rfl⟩)
      have hby:Bytes w7 w7.heap.size (.slice (some ⟨bk,o,none⟩) (N - (1+s)) 0) R:=⟨_,_,by rw[HDL.out],by have:=HCM.out;have:=HDL.out;omega,(fun h=>by cases h),by simp[maxLen],by have:=HRL.out;omega,fun hn=>by have:=HCM.out;have:=HDL.out;rw[List.length_map]at hn;omega⟩;refine(newReader_any _ _ R hby).mono ?_;rintro e w8 ⟨r,rfl,hrd,hk8⟩;have HRR:=zh hrd;replace ST:=zh (ST.out.go hk8);have HKN8:=zh (HKN7.out.then_ hk8);have HR8:=zh (HR7.out.keeps hk8);have HS8:=zh (show b7 < w7.heap.size∧w7.heap.size≤w8.heap.size from⟨HS7.out.2,hk8.size⟩);clear hby hrd hk8 hw1 hs1 hce
      go_upto_region 9 with fail
      obtain⟨Wl,hWl⟩:∃Wl,w8.alloc (.cells #[.pointer (some ⟨r,0,none⟩)] 74)=Wl:=⟨_,rfl⟩;have kl:Keeps w8 Wl []:=by rw[←hWl];exact Keeps.alloc _ _
      have ri:Row Wl w8.heap.size 74 #[.pointer (some ⟨r,0,none⟩)]:=by rw[←hWl];exact Row.new _ _ _
      obtain⟨bi,hbi⟩:∃bi,w8.heap.size=bi:=⟨_,rfl⟩;obtain⟨base,hbase⟩:∃base,w7.heap.size=base:=⟨_,rfl⟩;rw[hbase]at HRR;have hrl:base≤r∧r < bi:=by
       obtain⟨A',c',q1,q2,_⟩:=HRR.out;have:=q1.lt;exact⟨q2,by omega⟩
      rw[hWl,hbi];rw[hbi]at ri;have hbr:B+1 < r∧b7 < r∧w2.heap.size < r:=by
       have h1:=HS7.out;have h2:=HS8.out;have h3:=HB1.out;have h4:=HB7.out;omega
      have HRX:=zh (And.intro hrl hbr);have HBB:=zh (show B < base from by have h1:=HS7.out;have h2:=HB7.out;have h3:=HB1.out;have h4:=HRX.out.1;omega);replace HRR:=zh (HRR.out.keep kl (by simp));replace ST:=zh (ST.out.go kl);have RI:=zh ri;have HKL:=zh (HKN8.out.then_ kl);have HRL9:=zh (HR8.out.keeps kl);clear kl ri hWl hbi hbase hrl hbr;have hrB:=HRX.out.2.1;have hN0:0 < N:=by have:=HNN.out;omega
      have hx8:=x.toNat_lt;have MF:∀W',Keeps Wl W' [r]→W'.cell? ⟨b7,4,none⟩=some (.func (.func i5) #[] c5):=fun W' hk=>by
       have:=(HRL9.out.keep hk (by have:=HRX.out.2.2.1;simp;omega)).cell 4
       simpa using this
      have MI:∀W',Keeps Wl W' [r]→W'.cell? ⟨bi,0,none⟩=some (.pointer (some ⟨r,0,none⟩)):=fun W' hk=>by
       have:=(RI.out.keep hk (by have:=HRX.out.1.2;simp;omega)).cell 0
       simpa using this
      have MX:∀W',Keeps Wl W' [r]→W'.cell? ⟨bk,o,none⟩=some (.int .u8 (x.toNat:Nat)):=fun W' hk=>HXW.out W' (ST.out.goR hk hrB).k
      have MK:∀W',Keeps Wl W' [r]→Keeps w2 W' []:=fun W' hk=>HKL.out.trans hk (fun y hy hlt=>by have:=HRX.out.2.2.2;simp at hy;omega)
      obtain⟨f,hf⟩:∃f,x.toNat % 16=f:=⟨_,rfl⟩;have HF:=zh (show x.toNat % 16=f∧f < 16 by omega);have hand:bits .and .u8 (x.toNat:Int) 15=(f:Int):=by rw[←hf];exact and_15 _ (by omega)
      have hwf:IntKind.i64.wrap (f:Int)=(f:Int):=IntWalk.i64_in _ ⟨by omega,by have:=HF.out;omega⟩;clear hf
      rcases hRP:rdPk (kk:Nat) f R with _ | ⟨p,t⟩
      ·have HNO:=zh (show∀p,¬PkIs (x::y::l) p from fun p h=>by
        rw[HLD.out]at h;obtain⟨s',h1,_,_,_,h5,h6,h7⟩:=pk_parse_no h;rw[HLN.out]at h1;injection h1 with h1;injection h1 with h1;injection h1 with e1 e2
        subst e2;rw[HKK.out.1,HRD.out,HF.out.1]at h7;rw[h7]at hRP
        cases hRP)
       have HRP:=zh hRP;clear hRP;have LH:LightK [⟨8, [], []⟩] (rdC r) (rdA base r R (fun _=>R)):=rdLight;refine wp_region_writersD [⟨8, [], []⟩] (rdC r) (rdA base r R (fun _=>R)) _ 8 [59,60,65] _ rfl LH (by kernel_rfl) rfl (by kernel_rfl) ?_;apply loosed_is 0 _ rfl (by decide)
       ·intro W vals hW hkn
        clear hkn;have hC:=hW.c;refine⟨?_⟩;simp only[fill];go_simp
        first | exact⟨LH.stp (Keeps.refl _ _),rfl⟩ | exact⟨LH.stp (Keeps.alloc _ _),rfl⟩
       simp only[addEnt];apply loosed_is 1 _ rfl (by decide)
       ·intro W vals hW hkn
        have hC:=hW.c;simp only[knowsK]at hkn
        try simp only[and_true]at hkn
        clear hkn;have m:=MF W hC;refine⟨?_⟩;simp only[fill];go_simp
        first | exact⟨LH.stp (Keeps.refl _ _),rfl⟩ | exact⟨LH.stp (Keeps.alloc _ _),rfl⟩
       simp only[addEnt];apply loosed_is 2 _ rfl (by decide)
       ·intro W vals hW hkn
        have hC:=hW.c;simp only[knowsK]at hkn
        try simp only[and_true]at hkn
        clear hkn;have m:=MI W hC;refine⟨?_⟩;simp only[fill];go_simp
        first | exact⟨LH.stp (Keeps.refl _ _),rfl⟩ | exact⟨LH.stp (Keeps.alloc _ _),rfl⟩
       simp only[addEnt];apply loosed_is 3 _ rfl (by decide)
       ·intro W vals hW hkn
        clear hkn;have hC:=hW.c;refine⟨?_⟩;simp only[fill];go_simp
        first | exact⟨LH.stp (Keeps.refl _ _),rfl⟩ | exact⟨LH.stp (Keeps.alloc _ _),rfl⟩
       simp only[addEnt];apply loosed_is 4 _ rfl (by decide)
       ·intro W vals hW hkn
        clear hkn;have hC:=hW.c;refine⟨?_⟩;simp only[fill];go_simp
        first | exact⟨LH.stp (Keeps.refl _ _),rfl⟩ | exact⟨LH.stp (Keeps.alloc _ _),rfl⟩
       simp only[addEnt];apply loosed_is 5 _ rfl (by decide)
       ·intro W vals hW hkn
        have hC:=hW.c;simp only[knowsK]at hkn
        try simp only[and_true]at hkn
        clear hkn;have m:=MX W hC;refine⟨?_⟩;simp only[fill];go_simp
        first | exact⟨LH.stp (Keeps.refl _ _),rfl⟩ | exact⟨LH.stp (Keeps.alloc _ _),rfl⟩
       simp only[addEnt];apply loosed_is 6 _ rfl (by decide)
       ·intro W vals hW hkn
        clear hkn;have hC:=hW.c;refine⟨?_⟩;simp only[fill];go_simp
        first | exact⟨LH.stp (Keeps.refl _ _),rfl⟩ | exact⟨LH.stp (Keeps.alloc _ _),rfl⟩
       simp only[addEnt];apply loosed_is 7 _ rfl (by decide)
       ·intro W vals hW hkn
        clear hkn;have hC:=hW.c;refine⟨?_⟩;simp only[fill];go_simp
        first | exact⟨LH.stp (Keeps.refl _ _),rfl⟩ | exact⟨LH.stp (Keeps.alloc _ _),rfl⟩
       simp only[addEnt];refine loosed_dies rfl (fun W vals hW hkn=> ?_) ?_
       ·have hC:=hW.c
        have hr:Rd W base r R:=(hW.a ⟨8, [], []⟩ (by simp) (.inl rfl)).1 HRR.out;clear hkn;simp only[fill,Act.put,zsa,zsc,zsz];refine⟨rfl,i5,_,W,exec_callv i5 c5 #[.agg #[.pointer (some ⟨r,0,none⟩)],.int .i64 (f:Int)] rfl HKN.out.r5 (by kernel_rfl), ?_⟩;refine(HKN.out.read W base r f R (MK W hC) hr (by have:=HRL.out;omega) HF.out.2).mono ?_;rintro e w9 ⟨hk9,h9⟩;rw[HRP.out]at h9;simp only at h9;subst h9;refine⟨_,rfl,fun a' hd' ht' => ?_⟩;obtain⟨t',d'⟩:=a';simp only at hd';subst hd';have t2:=ht' 2 (off_all (by kernel_rfl));have t3:=ht' 3 (off_all (by kernel_rfl));simp only[Exit.then];exact ps_dies w9 t' B ((ST.out.goR hC hrB).goR hk9 hrB) HNO.out (by rw[Array.getD_eq_getD_getElem?,t2];rfl) (by rw[Array.getD_eq_getD_getElem?,t3];rfl)
       simp only[addEnt];refine loosed_skip 9 rfl (by decide) (by kernel_rfl) ?_;simp only[addEnt];exact loosed_nil
      ·have HRP:=zh hRP
       clear hRP;have LH:LightK [⟨8, [0,1,2,3,4,5,6,7], []⟩] (rdC r) (rdA base r t (fun _=>R)):=rdLight;refine wp_region_writersL [⟨8, [0,1,2,3,4,5,6,7], []⟩] (rdC r) (rdA base r t (fun _=>R)) _ 9 LH (by kernel_rfl) rfl (by kernel_rfl) ?_;simp only[zts,ztz,zds,zdz];apply loosek_is 0 _ rfl
       ·intro W vals hW hkn
        clear hkn;have hC:=hW.c;refine⟨?_⟩;simp only[fill];go_simp
        first | exact⟨LH.stp (Keeps.refl _ _),rfl⟩ | exact⟨LH.stp (Keeps.alloc _ _),rfl⟩
       simp only[addEnt];apply loosek_is 1 _ rfl
       ·intro W vals hW hkn
        have hC:=hW.c;simp only[knowsK]at hkn
        try simp only[and_true]at hkn
        clear hkn;have m:=MF W hC;refine⟨?_⟩;simp only[fill];go_simp
        first | exact⟨LH.stp (Keeps.refl _ _),rfl⟩ | exact⟨LH.stp (Keeps.alloc _ _),rfl⟩
       simp only[addEnt];apply loosek_is 2 _ rfl
       ·intro W vals hW hkn
        have hC:=hW.c;simp only[knowsK]at hkn
        try simp only[and_true]at hkn
        clear hkn;have m:=MI W hC;refine⟨?_⟩;simp only[fill];go_simp
        first | exact⟨LH.stp (Keeps.refl _ _),rfl⟩ | exact⟨LH.stp (Keeps.alloc _ _),rfl⟩
       simp only[addEnt];apply loosek_is 3 _ rfl
       ·intro W vals hW hkn
        clear hkn;have hC:=hW.c;refine⟨?_⟩;simp only[fill];go_simp
        first | exact⟨LH.stp (Keeps.refl _ _),rfl⟩ | exact⟨LH.stp (Keeps.alloc _ _),rfl⟩
       simp only[addEnt];apply loosek_is 4 _ rfl
       ·intro W vals hW hkn
        clear hkn;have hC:=hW.c;refine⟨?_⟩;simp only[fill];go_simp
        first | exact⟨LH.stp (Keeps.refl _ _),rfl⟩ | exact⟨LH.stp (Keeps.alloc _ _),rfl⟩
       simp only[addEnt];apply loosek_is 5 _ rfl
       ·intro W vals hW hkn
        have hC:=hW.c;simp only[knowsK]at hkn
        try simp only[and_true]at hkn
        clear hkn;have m:=MX W hC;refine⟨?_⟩;simp only[fill];go_simp
        first | exact⟨LH.stp (Keeps.refl _ _),rfl⟩ | exact⟨LH.stp (Keeps.alloc _ _),rfl⟩
       simp only[addEnt];apply loosek_is 6 _ rfl
       ·intro W vals hW hkn
        clear hkn;have hC:=hW.c;refine⟨?_⟩;simp only[fill];go_simp
        first | exact⟨LH.stp (Keeps.refl _ _),rfl⟩ | exact⟨LH.stp (Keeps.alloc _ _),rfl⟩
       simp only[addEnt];apply loosek_is 7 _ rfl
       ·intro W vals hW hkn
        clear hkn;have hC:=hW.c;refine⟨?_⟩;simp only[fill];go_simp
        first | exact⟨LH.stp (Keeps.refl _ _),rfl⟩ | exact⟨LH.stp (Keeps.alloc _ _),rfl⟩
       simp only[addEnt];refine loosek_has 8 (fun v W' =>∃sw sc sf,v=pkV {p with k:=0} sw sc sf∧PkT W' p sw sc sf∧Rd W' base r t) rfl (fun W vals hW hkn φ' hφ=> ?_) ?_
       ·have hC:=hW.c
        have hr:Rd W base r R:=(hW.a ⟨8, [0,1,2,3,4,5,6,7], []⟩ (by simp) (.inl rfl)).1 HRR.out;clear hkn;refine⟨?_⟩;rw[if_pos (by kernel_rfl),exec_callv i5 c5 #[.agg #[.pointer (some ⟨r,0,none⟩)],.int .i64 (f:Int)] rfl HKN.out.r5 (by kernel_rfl)];refine loosek_writes LH hφ ((HKN.out.read W base r f R (MK W hC) hr (by have:=HRL.out;omega) HF.out.2).mono ?_);rintro e w9 ⟨hk9,h9⟩;rw[HRP.out]at h9;simp only at h9;obtain⟨sw,sc,sf,e1,e2,e3⟩:=h9;exact⟨_,e1,⟨hk9,fun x hx hne=>by simp at hx;subst hx;exact absurd rfl hne⟩,sw,sc,sf,rfl,e2,e3⟩
       simp only[addEnt];refine loosek_nil (fun W9 vals hW hkn=> ?_);simp only[knowsAllK]at hkn
       try simp only[and_true]at hkn
       simp only[fill,Act.put,zsa,zsc,zsz];obtain⟨W1,q0,q1,sw,sc,sf,hv,hpl,hrt⟩:=hkn;obtain⟨rx,hrx⟩:=hrt.row;have hrt9:=(q1.a ⟨8, [0,1,2,3,4,5,6,7], []⟩ (by simp) (.inl rfl)).2 hrt;have hpl9:=hpl.farR hrx q1.c;obtain⟨A1,d1,A2,d2,A3,d3,rfl,rfl,rfl⟩:=hpl.slices;have hW' :Keeps Wl W9 [r]:=hW;have ST9:=zh (ST.out.goR hW' hrB);have HPL9:=zh hpl9;have HRT9:=zh hrt9;have HR9:=zh (HRL9.out.keep hW' (by have:=HRX.out.2.2.1;simp;omega));have RI9:=zh (RI.out.keep hW' (by have:=HRX.out.1.2;simp;omega));have HK9:=zh (MK W9 hW');have HSW:=zh (show∀W',Keeps W9 W' [B]→Sh W' (kk:Int).toNat (.agg #[.func (.func i1) #[] c1,.func (.func i2) #[] c2,fv,wv,.func (.func i5) #[] c5])from fun W' hk=>HSV.out.rowsP (fun b' t' cs' ht hr=>(hr.keeps HK9.out).keep hk (fun hm=>by rw[List.mem_singleton]at hm;subst hm;exact Row.ne_type ST9.out.r1 (hr.keeps HK9.out) ht rfl)));rw[hv];clear hv hpl hrt hrt9 hpl9 q0 q1 hrx hW hW' LH MF MI MX MK;refine wpList_store_row rfl (.tmp 2) (.tmp 66) 29 rfl B (zP 0 p.dup p.ret p.q p.t p.b p.id p.c p.cl p.keep p.hw p.wt p.wb p.wq p.wr p.hu p.hp p.u p.pw p.pr p.code (.slice A1 p.wants.length d1) (.slice A2 p.codes.length d2) (.slice A3 p.fs.length d3)) pkZC ST9.out.r1 (by kernel_rfl) rfl (by simp[Value.oneCell']) rfl rfl ?_;intro v7 r7 k7;have hBr:B≠r∧B < r∧B≠b7∧B≠bi:=⟨by omega,by omega,by have:=HS7.out;omega,by have:=HRX.out.1.2;omega⟩;have STA:=zh (ST9.out.put k7 r7 rfl);have HPLA:=zh (HPL9.out.far (.inr trivial) ST9.out.r1 k7);have HRTA:=zh (HRT9.out.keep k7 (by have:=HRX.out.1.1;have:=HBB.out;simp;omega));have HRA:=zh (HR9.out.keep k7 (by have:=hBr.2.2.1;simp;omega));have RIA:=zh (RI9.out.keep k7 (by have:=hBr.2.2.2;simp;omega));have HKA:=zh (show Keeps w v7 []from STA.out.k);have HK7:=zh k7;clear r7 k7 ST9 HPL9 HRT9 HR9 RI9;simp only[Act.put];have x0:=STA.out.r1.cell 0;have f0:=STA.out.r1.frozen 0;simp only[zga,zgz]at x0
       go_upto_region 12 with fail
       obtain⟨v8,hv8⟩:∃v8,v7.setCell ⟨B,0,none⟩ (.int .i64 (kk:Nat))=v8:=⟨_,rfl⟩;have k8:Keeps v7 v8 [B]:=by rw[←hv8];exact Keeps.setCell _ _ _
       have r8:Row v8 B 29 (zP (kk:Nat) p.dup p.ret p.q p.t p.b p.id p.c p.cl p.keep p.hw p.wt p.wb p.wq p.wr p.hu p.hp p.u p.pw p.pr p.code (.slice A1 p.wants.length d1) (.slice A2 p.codes.length d2) (.slice A3 p.fs.length d3)):=by rw[←hv8];exact STA.out.r1.store 0 _
       rw[hv8];have ST8:=zh (STA.out.put k8 r8 rfl);have HPL8:=zh (HPLA.out.far (.inr trivial) STA.out.r1 k8);have HRT8:=zh (HRTA.out.keep k8 (by have:=HRX.out.1.1;have:=HBB.out;simp;omega));have HRR8:=zh (HRA.out.keep k8 (by have:=hBr.2.2.1;simp;omega));have RI8:=zh (RIA.out.keep k8 (by have:=hBr.2.2.2;simp;omega));have HPK:=zh (pk_sound (pkIn_iff.2 HIN.out) HRP.out).1;have HQ:=zh (show(kk:Int)=3→0≤p.q∧p.q≤3 from fun e=>pub_q (f:=f) (l:=R) (t:=t) (by have:=HRP.out;rw[e]at this;exact this));have hsh8:=HSW.out v8 (HK7.out.trans k8 (fun _ h _=>h));obtain⟨j1,e1,j2,e2,gv,hv',j5,e5,hX,K8⟩:=pkK HIN.out hsh8;injection hX with hX
       simp at hX;obtain⟨⟨rfl,rfl⟩,⟨rfl,rfl⟩,rfl,rfl,⟨rfl,rfl⟩⟩:=hX;have HKN9:=zh K8;clear hsh8 K8 k8 r8 hv8 x0 f0 STA HPLA HRTA HRA RIA HKA hBr;obtain⟨G,hG⟩:∃G,pkF p=G:=⟨_,rfl⟩;have HG:=zh hG;clear hG
       rcases HKN9.out.fl with⟨e1,e2⟩ | ⟨i7,g7,e1,hr7,hcf⟩
       ·subst e1
        have HG0:=zh (show G=0 from HG.out.symm.trans (e2 p HPK.out));clear e2;refine wp_region_lit ?_;refine wpList_val (.pointer (some ⟨b7,2,none⟩)) rfl (by kernel_rfl) ?_;refine wpList_loadc 52 (.tmp 69) ⟨b7,2,none⟩ .nilFunc rfl rfl (by kernel_rfl) (fun _=>by kernel_rfl) ((HRR8.out.cell 2).trans (by kernel_rfl)) ?_;refine wpList_val (.bool false) rfl (by kernel_rfl) ?_;simp only[Act.put,zsa,zsc,zsz]
        go_upto_region 14 with fail
        have rc:=RI8.out.cell 0;simp only[zga,zgz]at rc;obtain⟨z1,hz1⟩:∃z1,((t.length:Int)==0)=z1:=⟨_,rfl⟩
        cases z1 with
        | false=>
         have HNO:=zh (show∀p',¬PkIs (x::y::l) p' from fun p' h=>by
          rw[HLD.out]at h;obtain⟨s',h1,_,_,_,h5,h6,h7⟩:=pk_parse_no h;rw[HLN.out]at h1;injection h1 with h1;injection h1 with h1;injection h1 with e1 e2
          subst e2;rw[HKK.out.1,HRD.out,HF.out.1,HRP.out]at h7;injection h7 with h7
          injection h7 with h8 h9
          rw[h9]at hz1
          cases hz1)
         go_wp2_with fail
         refine(rdLeft_any _ base r t HRT8.out).mono ?_;rintro e w' ⟨rfl,rfl⟩
         go_wp2_with (go_at_call 30;refine(pvMust_no _).mono ?_;rintro e w' ⟨rfl,rfl⟩)
         exact ps_dies _ _ B ST8.out HNO.out rfl rfl
        | true=>
         have HT0:=zh (show t= []from by
          have:(t.length:Int)=0:=by simpa using hz1
          exact List.length_eq_zero_iff.1 (by omega))
         have hx:=HXW.out _ ST8.out.k;obtain⟨z2,hz2⟩:∃z2,(((0):Int)==(f:Int))=z2:=⟨_,rfl⟩
         cases z2 with
         | false=>
          have HNO:=zh (show∀p',¬PkIs (x::y::l) p' from fun p' h=>by
           rw[HLD.out]at h;obtain⟨s',h1,_,_,_,h5,h6,h7⟩:=pk_parse_no h;rw[HLN.out]at h1;injection h1 with h1;injection h1 with h1;injection h1 with e1 e2
           subst e2;rw[HKK.out.1,HRD.out,HF.out.1,HRP.out]at h7;injection h7 with h7
           injection h7 with h8 h9
           subst h8;rw[HG.out,HF.out.1]at h6
           first | (have h0:=HG0.out;rw[h0]at h6;rw[←h6]at hz2;simp at hz2) | (rw[h6]at hz2;simp at hz2))
          go_wp2_with fail
          refine(rdLeft_any _ base r t HRT8.out).mono ?_;rintro e w' ⟨rfl,rfl⟩
          go_wp2_with (go_at_call 30;refine(pvMust_no _).mono ?_;rintro e w' ⟨rfl,rfl⟩)
          exact ps_dies _ _ B ST8.out HNO.out rfl rfl
         | true=>
          have HFG:=zh (show pkF p=f by
           have:((0):Int)=(f:Int):=by simpa using hz2
           rw[HG.out]
           first | (have h0:=HG0.out;omega) | omega)
          have hck:=pkCheck_any p (.slice A1 p.wants.length d1) (.slice A2 p.codes.length d2) (.slice A3 p.fs.length d3) _ HPL8.out.g (pk_small (pkIn_iff.2 HIN.out) HRL.out.2 HRP.out) (HM.out.keeps ST8.out.k) (by have:=HPK.out;omega) (by have:=HPK.out;have:=HKK.out;omega);unfold pkV at hck;rw[HPK.out]at hck
          go_wp2_with fail
          refine(rdLeft_any _ base r t HRT8.out).mono ?_;rintro e w' ⟨rfl,rfl⟩
          go_wp2_with (refine wpList_loadg (by kernel_rfl) 29 (.tmp 2) rfl B 0 (by kernel_rfl) (zL (kk:Nat) p.dup p.ret p.q p.t p.b p.id p.c p.cl p.keep p.hw p.wt p.wb p.wq p.wr p.hu p.hp p.u p.pw p.pr p.code (.slice A1 p.wants.length d1) (.slice A2 p.codes.length d2) (.slice A3 p.fs.length d3)) _ (range_row ST8.out.r1) Tryz.underlying29 rfl (by kernel_rfl) ?_;refine Hid.out ?_)
          refine zh ?_;refine wpList_callg 13 #[.agg (zP (kk:Nat) p.dup p.ret p.q p.t p.b p.id p.c p.cl p.keep p.hw p.wt p.wb p.wq p.wr p.hu p.hp p.u p.pw p.pr p.code (.slice A1 p.wants.length d1) (.slice A2 p.codes.length d2) (.slice A3 p.fs.length d3))] (by kernel_rfl) (by kernel_rfl) (hck.mono ?_);rintro e w9 ⟨rfl,hk9⟩;refine .inl ⟨_,rfl, ?_⟩;replace ST8:=zh (ST8.out.go hk9);replace HPL8:=zh (HPL8.out.keeps hk9);clear hck hk9
          cases hok:pkOk p with
          | false=>
           rw[chkV_no hok];have HNO:=zh (show∀p',¬PkIs (x::y::l) p' from fun p' h=>by
            have hp:=h.1;rw[HLD.out]at h;obtain⟨s',h1,_,_,_,h5,h6,h7⟩:=pk_parse_no h;rw[HLN.out]at h1;injection h1 with h1;injection h1 with h1;injection h1 with e1 e2
            subst e2;rw[HKK.out.1,HRD.out,HF.out.1,HRP.out]at h7;injection h7 with h7
            injection h7 with h8 h9
            rw[←h8,hok]at hp
            cases hp)
           clear hok
           iterate 2
            refine wpList_valg (.bool false) (by kernel_rfl) (by kernel_rfl) ?_
           simp only[Act.put,zsa,zsc,zsz]
           go_wp2_with (go_at_call 30;refine(pvMust_no _).mono ?_;rintro e w' ⟨rfl,rfl⟩)
           exact ps_dies _ _ B ST8.out HNO.out rfl rfl
          | true=>
           rw[chkV_yes hok];have HIS:=zh (show PkIs (x::y::l) p from by
            rw[HLD.out];exact pk_parse HLN.out HN2.out (by rw[HKK.out.1];exact pkIn_iff.2 HIN.out) (by rw[HKK.out.1,HRD.out,HF.out.1];exact HRP.out) HT0.out (by rw[HF.out.1];exact HFG.out) hok)
           clear hok
           iterate 2
            refine wpList_valg (.bool true) (by kernel_rfl) (by kernel_rfl) ?_
           simp only[Act.put,zsa,zsc,zsz]
           go_upto_region 15 with(go_at_call 30;refine(pvMust_yes _).mono ?_;rintro e w' ⟨rfl,rfl⟩)
           refine wp_region_lit ?_;refine wpList_load_mid rfl 29 (.tmp 2) rfl B 0 (by kernel_rfl) (zL (kk:Nat) p.dup p.ret p.q p.t p.b p.id p.c p.cl p.keep p.hw p.wt p.wb p.wq p.wr p.hu p.hp p.u p.pw p.pr p.code (.slice A1 p.wants.length d1) (.slice A2 p.codes.length d2) (.slice A3 p.fs.length d3)) _ (range_row ST8.out.r1) Tryz.underlying29 rfl (by kernel_rfl) ?_;refine wpList_store_row rfl (.tmp 2) (.tmp 95) 29 rfl B (zP (kk:Nat) p.dup p.ret p.q p.t p.b p.id p.c p.cl p.keep p.hw p.wt p.wb p.wq p.wr p.hu p.hp p.u p.pw p.pr p.code (.slice A1 p.wants.length d1) (.slice A2 p.codes.length d2) (.slice A3 p.fs.length d3)) (zP (kk:Nat) p.dup p.ret p.q p.t p.b p.id p.c p.cl p.keep p.hw p.wt p.wb p.wq p.wr p.hu p.hp p.u p.pw p.pr p.code (.slice A1 p.wants.length d1) (.slice A2 p.codes.length d2) (.slice A3 p.fs.length d3)) ST8.out.r1 (by kernel_rfl) rfl (by simp[Value.oneCell']) rfl rfl ?_;intro va ra ka;have STA:=zh (ST8.out.put ka ra rfl);have HPLA:=zh (HPL8.out.far (.inr trivial) ST8.out.r1 ka);clear ra ka;simp only[Act.put,zsa,zsc,zsz];have d3:=STA.out.r2.cell 0;have g3:=STA.out.r2.frozen 0;simp only[zga,zgz]at d3
           go_wp2_with fail
           obtain⟨stb,kb⟩:=STA.out.err (.int .i64 0);exact ps_ends _ _ B (p:=p) (by unfold pkV;rw[HPK.out]) stb (HPLA.out.farE STA.out.r2 kb) HIS.out rfl rfl
       ·subst e1
        refine wp_region_lit ?_;refine wpList_val (.pointer (some ⟨b7,2,none⟩)) rfl (by kernel_rfl) ?_;refine wpList_loadc 52 (.tmp 69) ⟨b7,2,none⟩ (.func (.func i7) #[] g7) rfl rfl (by kernel_rfl) (fun _=>by kernel_rfl) ((HRR8.out.cell 2).trans (by kernel_rfl)) ?_;refine wpList_val (.bool true) rfl (by kernel_rfl) ?_;simp only[Act.put,zsa,zsc,zsz]
        go_upto_region 13 with fail
        have hfc:=hcf p (.slice A1 p.wants.length d1) (.slice A2 p.codes.length d2) (.slice A3 p.fs.length d3) v8 (Keeps.refl _ _) HPK.out HQ.out;unfold pkV at hfc;rw[HPK.out,HG.out]at hfc;clear hcf;refine wp_region_lit ?_;refine wpList_val (.pointer (some ⟨b7,2,none⟩)) rfl (by kernel_rfl) ?_;refine wpList_loadc 52 (.tmp 72) ⟨b7,2,none⟩ (.func (.func i7) #[] g7) rfl rfl (by kernel_rfl) (fun _=>by kernel_rfl) ((HRR8.out.cell 2).trans (by kernel_rfl)) ?_;refine wpList_load_mid rfl 29 (.tmp 2) rfl B 0 (by kernel_rfl) (zL (kk:Nat) p.dup p.ret p.q p.t p.b p.id p.c p.cl p.keep p.hw p.wt p.wb p.wq p.wr p.hu p.hp p.u p.pw p.pr p.code (.slice A1 p.wants.length d1) (.slice A2 p.codes.length d2) (.slice A3 p.fs.length d3)) _ (range_row ST8.out.r1) Tryz.underlying29 rfl (by kernel_rfl) ?_;refine wpList_callv i7 g7 #[.agg (zP (kk:Nat) p.dup p.ret p.q p.t p.b p.id p.c p.cl p.keep p.hw p.wt p.wb p.wq p.wr p.hu p.hp p.u p.pw p.pr p.code (.slice A1 p.wants.length d1) (.slice A2 p.codes.length d2) (.slice A3 p.fs.length d3))] rfl rfl hr7 (by kernel_rfl) ?_;refine hfc.mono ?_;rintro e v9 ⟨rfl,hk9⟩;refine .inl ⟨_,rfl, ?_⟩;clear hfc;replace ST8:=zh (ST8.out.go hk9);replace HPL8:=zh (HPL8.out.keeps hk9);replace HRT8:=zh (HRT8.out.keep hk9 (by simp));replace RI8:=zh (RI8.out.keeps hk9);clear hk9;simp only[Act.put,zsa,zsc,zsz]
        go_upto_region 14 with fail
        have rc:=RI8.out.cell 0;simp only[zga,zgz]at rc;obtain⟨z1,hz1⟩:∃z1,((t.length:Int)==0)=z1:=⟨_,rfl⟩
        cases z1 with
        | false=>
         have HNO:=zh (show∀p',¬PkIs (x::y::l) p' from fun p' h=>by
          rw[HLD.out]at h;obtain⟨s',h1,_,_,_,h5,h6,h7⟩:=pk_parse_no h;rw[HLN.out]at h1;injection h1 with h1;injection h1 with h1;injection h1 with e1 e2
          subst e2;rw[HKK.out.1,HRD.out,HF.out.1,HRP.out]at h7;injection h7 with h7
          injection h7 with h8 h9
          rw[h9]at hz1
          cases hz1)
         go_wp2_with fail
         refine(rdLeft_any _ base r t HRT8.out).mono ?_;rintro e w' ⟨rfl,rfl⟩
         go_wp2_with (go_at_call 30;refine(pvMust_no _).mono ?_;rintro e w' ⟨rfl,rfl⟩)
         exact ps_dies _ _ B ST8.out HNO.out rfl rfl
        | true=>
         have HT0:=zh (show t= []from by
          have:(t.length:Int)=0:=by simpa using hz1
          exact List.length_eq_zero_iff.1 (by omega))
         have hx:=HXW.out _ ST8.out.k;obtain⟨z2,hz2⟩:∃z2,((((G:Nat)):Int)==(f:Int))=z2:=⟨_,rfl⟩
         cases z2 with
         | false=>
          have HNO:=zh (show∀p',¬PkIs (x::y::l) p' from fun p' h=>by
           rw[HLD.out]at h;obtain⟨s',h1,_,_,_,h5,h6,h7⟩:=pk_parse_no h;rw[HLN.out]at h1;injection h1 with h1;injection h1 with h1;injection h1 with e1 e2
           subst e2;rw[HKK.out.1,HRD.out,HF.out.1,HRP.out]at h7;injection h7 with h7
           injection h7 with h8 h9
           subst h8;rw[HG.out,HF.out.1]at h6
           first | (have h0:=HG0.out;rw[h0]at h6;rw[←h6]at hz2;simp at hz2) | (rw[h6]at hz2;simp at hz2))
          go_wp2_with fail
          refine(rdLeft_any _ base r t HRT8.out).mono ?_;rintro e w' ⟨rfl,rfl⟩
          go_wp2_with (go_at_call 30;refine(pvMust_no _).mono ?_;rintro e w' ⟨rfl,rfl⟩)
          exact ps_dies _ _ B ST8.out HNO.out rfl rfl
         | true=>
          have HFG:=zh (show pkF p=f by
           have:(((G:Nat)):Int)=(f:Int):=by simpa using hz2
           rw[HG.out]
           first | (have h0:=HG0.out;omega) | omega)
          have hck:=pkCheck_any p (.slice A1 p.wants.length d1) (.slice A2 p.codes.length d2) (.slice A3 p.fs.length d3) _ HPL8.out.g (pk_small (pkIn_iff.2 HIN.out) HRL.out.2 HRP.out) (HM.out.keeps ST8.out.k) (by have:=HPK.out;omega) (by have:=HPK.out;have:=HKK.out;omega);unfold pkV at hck;rw[HPK.out]at hck
          go_wp2_with fail
          refine(rdLeft_any _ base r t HRT8.out).mono ?_;rintro e w' ⟨rfl,rfl⟩
          go_wp2_with (refine wpList_loadg (by kernel_rfl) 29 (.tmp 2) rfl B 0 (by kernel_rfl) (zL (kk:Nat) p.dup p.ret p.q p.t p.b p.id p.c p.cl p.keep p.hw p.wt p.wb p.wq p.wr p.hu p.hp p.u p.pw p.pr p.code (.slice A1 p.wants.length d1) (.slice A2 p.codes.length d2) (.slice A3 p.fs.length d3)) _ (range_row ST8.out.r1) Tryz.underlying29 rfl (by kernel_rfl) ?_;refine Hid.out ?_)
          refine zh ?_;refine wpList_callg 13 #[.agg (zP (kk:Nat) p.dup p.ret p.q p.t p.b p.id p.c p.cl p.keep p.hw p.wt p.wb p.wq p.wr p.hu p.hp p.u p.pw p.pr p.code (.slice A1 p.wants.length d1) (.slice A2 p.codes.length d2) (.slice A3 p.fs.length d3))] (by kernel_rfl) (by kernel_rfl) (hck.mono ?_);rintro e w9 ⟨rfl,hk9⟩;refine .inl ⟨_,rfl, ?_⟩;replace ST8:=zh (ST8.out.go hk9);replace HPL8:=zh (HPL8.out.keeps hk9);clear hck hk9
          cases hok:pkOk p with
          | false=>
           rw[chkV_no hok];have HNO:=zh (show∀p',¬PkIs (x::y::l) p' from fun p' h=>by
            have hp:=h.1;rw[HLD.out]at h;obtain⟨s',h1,_,_,_,h5,h6,h7⟩:=pk_parse_no h;rw[HLN.out]at h1;injection h1 with h1;injection h1 with h1;injection h1 with e1 e2
            subst e2;rw[HKK.out.1,HRD.out,HF.out.1,HRP.out]at h7;injection h7 with h7
            injection h7 with h8 h9
            rw[←h8,hok]at hp
            cases hp)
           clear hok
           iterate 2
            refine wpList_valg (.bool false) (by kernel_rfl) (by kernel_rfl) ?_
           simp only[Act.put,zsa,zsc,zsz]
           go_wp2_with (go_at_call 30;refine(pvMust_no _).mono ?_;rintro e w' ⟨rfl,rfl⟩)
           exact ps_dies _ _ B ST8.out HNO.out rfl rfl
          | true=>
           rw[chkV_yes hok];have HIS:=zh (show PkIs (x::y::l) p from by
            rw[HLD.out];exact pk_parse HLN.out HN2.out (by rw[HKK.out.1];exact pkIn_iff.2 HIN.out) (by rw[HKK.out.1,HRD.out,HF.out.1];exact HRP.out) HT0.out (by rw[HF.out.1];exact HFG.out) hok)
           clear hok
           iterate 2
            refine wpList_valg (.bool true) (by kernel_rfl) (by kernel_rfl) ?_
           simp only[Act.put,zsa,zsc,zsz]
           go_upto_region 15 with(go_at_call 30;refine(pvMust_yes _).mono ?_;rintro e w' ⟨rfl,rfl⟩)
           refine wp_region_lit ?_;refine wpList_load_mid rfl 29 (.tmp 2) rfl B 0 (by kernel_rfl) (zL (kk:Nat) p.dup p.ret p.q p.t p.b p.id p.c p.cl p.keep p.hw p.wt p.wb p.wq p.wr p.hu p.hp p.u p.pw p.pr p.code (.slice A1 p.wants.length d1) (.slice A2 p.codes.length d2) (.slice A3 p.fs.length d3)) _ (range_row ST8.out.r1) Tryz.underlying29 rfl (by kernel_rfl) ?_;refine wpList_store_row rfl (.tmp 2) (.tmp 95) 29 rfl B (zP (kk:Nat) p.dup p.ret p.q p.t p.b p.id p.c p.cl p.keep p.hw p.wt p.wb p.wq p.wr p.hu p.hp p.u p.pw p.pr p.code (.slice A1 p.wants.length d1) (.slice A2 p.codes.length d2) (.slice A3 p.fs.length d3)) (zP (kk:Nat) p.dup p.ret p.q p.t p.b p.id p.c p.cl p.keep p.hw p.wt p.wb p.wq p.wr p.hu p.hp p.u p.pw p.pr p.code (.slice A1 p.wants.length d1) (.slice A2 p.codes.length d2) (.slice A3 p.fs.length d3)) ST8.out.r1 (by kernel_rfl) rfl (by simp[Value.oneCell']) rfl rfl ?_;intro va ra ka;have STA:=zh (ST8.out.put ka ra rfl);have HPLA:=zh (HPL8.out.far (.inr trivial) ST8.out.r1 ka);clear ra ka;simp only[Act.put,zsa,zsc,zsz];have d3:=STA.out.r2.cell 0;have g3:=STA.out.r2.frozen 0;simp only[zga,zgz]at d3
           go_wp2_with fail
           obtain⟨stb,kb⟩:=STA.out.err (.int .i64 0);exact ps_ends _ _ B (p:=p) (by unfold pkV;rw[HPK.out]) stb (HPLA.out.farE STA.out.r2 kb) HIS.out rfl rfl
     ·skip
      go_wp2_with (go_at_call 30;refine(pvMust_yes _).mono ?_;rintro e w' ⟨rfl,rfl⟩)
      have hby:Bytes w7 w7.heap.size (.slice (some ⟨bk,o+(1+s),none⟩) (N - (1+s)) (c - (1+s))) R:=⟨_,_,by rw[HDL.out],by have:=HCM.out;have:=HDL.out;omega,(fun h=>by cases h),by have:=HCM.out;omega,by have:=HRL.out;omega,HLR.out⟩;refine(newReader_any _ _ R hby).mono ?_;rintro e w8 ⟨r,rfl,hrd,hk8⟩;have HRR:=zh hrd;replace ST:=zh (ST.out.go hk8);have HKN8:=zh (HKN7.out.then_ hk8);have HR8:=zh (HR7.out.keeps hk8);have HS8:=zh (show b7 < w7.heap.size∧w7.heap.size≤w8.heap.size from⟨HS7.out.2,hk8.size⟩);clear hby hrd hk8 hw1 hs1 hce
      go_upto_region 9 with fail
      obtain⟨Wl,hWl⟩:∃Wl,w8.alloc (.cells #[.pointer (some ⟨r,0,none⟩)] 74)=Wl:=⟨_,rfl⟩;have kl:Keeps w8 Wl []:=by rw[←hWl];exact Keeps.alloc _ _
      have ri:Row Wl w8.heap.size 74 #[.pointer (some ⟨r,0,none⟩)]:=by rw[←hWl];exact Row.new _ _ _
      obtain⟨bi,hbi⟩:∃bi,w8.heap.size=bi:=⟨_,rfl⟩;obtain⟨base,hbase⟩:∃base,w7.heap.size=base:=⟨_,rfl⟩;rw[hbase]at HRR;have hrl:base≤r∧r < bi:=by
       obtain⟨A',c',q1,q2,_⟩:=HRR.out;have:=q1.lt;exact⟨q2,by omega⟩
      rw[hWl,hbi];rw[hbi]at ri;have hbr:B+1 < r∧b7 < r∧w2.heap.size < r:=by
       have h1:=HS7.out;have h2:=HS8.out;have h3:=HB1.out;have h4:=HB7.out;omega
      have HRX:=zh (And.intro hrl hbr);have HBB:=zh (show B < base from by have h1:=HS7.out;have h2:=HB7.out;have h3:=HB1.out;have h4:=HRX.out.1;omega);replace HRR:=zh (HRR.out.keep kl (by simp));replace ST:=zh (ST.out.go kl);have RI:=zh ri;have HKL:=zh (HKN8.out.then_ kl);have HRL9:=zh (HR8.out.keeps kl);clear kl ri hWl hbi hbase hrl hbr;have hrB:=HRX.out.2.1;have hN0:0 < N:=by have:=HNN.out;omega
      have hx8:=x.toNat_lt;have MF:∀W',Keeps Wl W' [r]→W'.cell? ⟨b7,4,none⟩=some (.func (.func i5) #[] c5):=fun W' hk=>by
       have:=(HRL9.out.keep hk (by have:=HRX.out.2.2.1;simp;omega)).cell 4
       simpa using this
      have MI:∀W',Keeps Wl W' [r]→W'.cell? ⟨bi,0,none⟩=some (.pointer (some ⟨r,0,none⟩)):=fun W' hk=>by
       have:=(RI.out.keep hk (by have:=HRX.out.1.2;simp;omega)).cell 0
       simpa using this
      have MX:∀W',Keeps Wl W' [r]→W'.cell? ⟨bk,o,none⟩=some (.int .u8 (x.toNat:Nat)):=fun W' hk=>HXW.out W' (ST.out.goR hk hrB).k
      have MK:∀W',Keeps Wl W' [r]→Keeps w2 W' []:=fun W' hk=>HKL.out.trans hk (fun y hy hlt=>by have:=HRX.out.2.2.2;simp at hy;omega)
      obtain⟨f,hf⟩:∃f,x.toNat % 16=f:=⟨_,rfl⟩;have HF:=zh (show x.toNat % 16=f∧f < 16 by omega);have hand:bits .and .u8 (x.toNat:Int) 15=(f:Int):=by rw[←hf];exact and_15 _ (by omega)
      have hwf:IntKind.i64.wrap (f:Int)=(f:Int):=IntWalk.i64_in _ ⟨by omega,by have:=HF.out;omega⟩;clear hf
      rcases hRP:rdPk (kk:Nat) f R with _ | ⟨p,t⟩
      ·have HNO:=zh (show∀p,¬PkIs (x::y::l) p from fun p h=>by
        rw[HLD.out]at h;obtain⟨s',h1,_,_,_,h5,h6,h7⟩:=pk_parse_no h;rw[HLN.out]at h1;injection h1 with h1;injection h1 with h1;injection h1 with e1 e2
        subst e2;rw[HKK.out.1,HRD.out,HF.out.1]at h7;rw[h7]at hRP
        cases hRP)
       have HRP:=zh hRP;clear hRP;have LH:LightK [⟨8, [], []⟩] (rdC r) (rdA base r R (fun _=>R)):=rdLight;refine wp_region_writersD [⟨8, [], []⟩] (rdC r) (rdA base r R (fun _=>R)) _ 8 [59,60,65] _ rfl LH (by kernel_rfl) rfl (by kernel_rfl) ?_;apply loosed_is 0 _ rfl (by decide)
       ·intro W vals hW hkn
        clear hkn;have hC:=hW.c;refine⟨?_⟩;simp only[fill];go_simp
        first | exact⟨LH.stp (Keeps.refl _ _),rfl⟩ | exact⟨LH.stp (Keeps.alloc _ _),rfl⟩
       simp only[addEnt];apply loosed_is 1 _ rfl (by decide)
       ·intro W vals hW hkn
        have hC:=hW.c;simp only[knowsK]at hkn
        try simp only[and_true]at hkn
        clear hkn;have m:=MF W hC;refine⟨?_⟩;simp only[fill];go_simp
        first | exact⟨LH.stp (Keeps.refl _ _),rfl⟩ | exact⟨LH.stp (Keeps.alloc _ _),rfl⟩
       simp only[addEnt];apply loosed_is 2 _ rfl (by decide)
       ·intro W vals hW hkn
        have hC:=hW.c;simp only[knowsK]at hkn
        try simp only[and_true]at hkn
        clear hkn;have m:=MI W hC;refine⟨?_⟩;simp only[fill];go_simp
        first | exact⟨LH.stp (Keeps.refl _ _),rfl⟩ | exact⟨LH.stp (Keeps.alloc _ _),rfl⟩
       simp only[addEnt];apply loosed_is 3 _ rfl (by decide)
       ·intro W vals hW hkn
        clear hkn;have hC:=hW.c;refine⟨?_⟩;simp only[fill];go_simp
        first | exact⟨LH.stp (Keeps.refl _ _),rfl⟩ | exact⟨LH.stp (Keeps.alloc _ _),rfl⟩
       simp only[addEnt];apply loosed_is 4 _ rfl (by decide)
       ·intro W vals hW hkn
        clear hkn;have hC:=hW.c;refine⟨?_⟩;simp only[fill];go_simp
        first | exact⟨LH.stp (Keeps.refl _ _),rfl⟩ | exact⟨LH.stp (Keeps.alloc _ _),rfl⟩
       simp only[addEnt];apply loosed_is 5 _ rfl (by decide)
       ·intro W vals hW hkn
        have hC:=hW.c;simp only[knowsK]at hkn
        try simp only[and_true]at hkn
        clear hkn;have m:=MX W hC;refine⟨?_⟩;simp only[fill];go_simp
        first | exact⟨LH.stp (Keeps.refl _ _),rfl⟩ | exact⟨LH.stp (Keeps.alloc _ _),rfl⟩
       simp only[addEnt];apply loosed_is 6 _ rfl (by decide)
       ·intro W vals hW hkn
        clear hkn;have hC:=hW.c;refine⟨?_⟩;simp only[fill];go_simp
        first | exact⟨LH.stp (Keeps.refl _ _),rfl⟩ | exact⟨LH.stp (Keeps.alloc _ _),rfl⟩
       simp only[addEnt];apply loosed_is 7 _ rfl (by decide)
       ·intro W vals hW hkn
        clear hkn;have hC:=hW.c;refine⟨?_⟩;simp only[fill];go_simp
        first | exact⟨LH.stp (Keeps.refl _ _),rfl⟩ | exact⟨LH.stp (Keeps.alloc _ _),rfl⟩
       simp only[addEnt];refine loosed_dies rfl (fun W vals hW hkn=> ?_) ?_
       ·have hC:=hW.c
        have hr:Rd W base r R:=(hW.a ⟨8, [], []⟩ (by simp) (.inl rfl)).1 HRR.out;clear hkn;simp only[fill,Act.put,zsa,zsc,zsz];refine⟨rfl,i5,_,W,exec_callv i5 c5 #[.agg #[.pointer (some ⟨r,0,none⟩)],.int .i64 (f:Int)] rfl HKN.out.r5 (by kernel_rfl), ?_⟩;refine(HKN.out.read W base r f R (MK W hC) hr (by have:=HRL.out;omega) HF.out.2).mono ?_;rintro e w9 ⟨hk9,h9⟩;rw[HRP.out]at h9;simp only at h9;subst h9;refine⟨_,rfl,fun a' hd' ht' => ?_⟩;obtain⟨t',d'⟩:=a';simp only at hd';subst hd';have t2:=ht' 2 (off_all (by kernel_rfl));have t3:=ht' 3 (off_all (by kernel_rfl));simp only[Exit.then];exact ps_dies w9 t' B ((ST.out.goR hC hrB).goR hk9 hrB) HNO.out (by rw[Array.getD_eq_getD_getElem?,t2];rfl) (by rw[Array.getD_eq_getD_getElem?,t3];rfl)
       simp only[addEnt];refine loosed_skip 9 rfl (by decide) (by kernel_rfl) ?_;simp only[addEnt];exact loosed_nil
      ·have HRP:=zh hRP
       clear hRP;have LH:LightK [⟨8, [0,1,2,3,4,5,6,7], []⟩] (rdC r) (rdA base r t (fun _=>R)):=rdLight;refine wp_region_writersL [⟨8, [0,1,2,3,4,5,6,7], []⟩] (rdC r) (rdA base r t (fun _=>R)) _ 9 LH (by kernel_rfl) rfl (by kernel_rfl) ?_;simp only[zts,ztz,zds,zdz];apply loosek_is 0 _ rfl
       ·intro W vals hW hkn
        clear hkn;have hC:=hW.c;refine⟨?_⟩;simp only[fill];go_simp
        first | exact⟨LH.stp (Keeps.refl _ _),rfl⟩ | exact⟨LH.stp (Keeps.alloc _ _),rfl⟩
       simp only[addEnt];apply loosek_is 1 _ rfl
       ·intro W vals hW hkn
        have hC:=hW.c;simp only[knowsK]at hkn
        try simp only[and_true]at hkn
        clear hkn;have m:=MF W hC;refine⟨?_⟩;simp only[fill];go_simp
        first | exact⟨LH.stp (Keeps.refl _ _),rfl⟩ | exact⟨LH.stp (Keeps.alloc _ _),rfl⟩
       simp only[addEnt];apply loosek_is 2 _ rfl
       ·intro W vals hW hkn
        have hC:=hW.c;simp only[knowsK]at hkn
        try simp only[and_true]at hkn
        clear hkn;have m:=MI W hC;refine⟨?_⟩;simp only[fill];go_simp
        first | exact⟨LH.stp (Keeps.refl _ _),rfl⟩ | exact⟨LH.stp (Keeps.alloc _ _),rfl⟩
       simp only[addEnt];apply loosek_is 3 _ rfl
       ·intro W vals hW hkn
        clear hkn;have hC:=hW.c;refine⟨?_⟩;simp only[fill];go_simp
        first | exact⟨LH.stp (Keeps.refl _ _),rfl⟩ | exact⟨LH.stp (Keeps.alloc _ _),rfl⟩
       simp only[addEnt];apply loosek_is 4 _ rfl
       ·intro W vals hW hkn
        clear hkn;have hC:=hW.c;refine⟨?_⟩;simp only[fill];go_simp
        first | exact⟨LH.stp (Keeps.refl _ _),rfl⟩ | exact⟨LH.stp (Keeps.alloc _ _),rfl⟩
       simp only[addEnt];apply loosek_is 5 _ rfl
       ·intro W vals hW hkn
        have hC:=hW.c;simp only[knowsK]at hkn
        try simp only[and_true]at hkn
        clear hkn;have m:=MX W hC;refine⟨?_⟩;simp only[fill];go_simp
        first | exact⟨LH.stp (Keeps.refl _ _),rfl⟩ | exact⟨LH.stp (Keeps.alloc _ _),rfl⟩
       simp only[addEnt];apply loosek_is 6 _ rfl
       ·intro W vals hW hkn
        clear hkn;have hC:=hW.c;refine⟨?_⟩;simp only[fill];go_simp
        first | exact⟨LH.stp (Keeps.refl _ _),rfl⟩ | exact⟨LH.stp (Keeps.alloc _ _),rfl⟩
       simp only[addEnt];apply loosek_is 7 _ rfl
       ·intro W vals hW hkn
        clear hkn;have hC:=hW.c;refine⟨?_⟩;simp only[fill];go_simp
        first | exact⟨LH.stp (Keeps.refl _ _),rfl⟩ | exact⟨LH.stp (Keeps.alloc _ _),rfl⟩
       simp only[addEnt];refine loosek_has 8 (fun v W' =>∃sw sc sf,v=pkV {p with k:=0} sw sc sf∧PkT W' p sw sc sf∧Rd W' base r t) rfl (fun W vals hW hkn φ' hφ=> ?_) ?_
       ·have hC:=hW.c
        have hr:Rd W base r R:=(hW.a ⟨8, [0,1,2,3,4,5,6,7], []⟩ (by simp) (.inl rfl)).1 HRR.out;clear hkn;refine⟨?_⟩;rw[if_pos (by kernel_rfl),exec_callv i5 c5 #[.agg #[.pointer (some ⟨r,0,none⟩)],.int .i64 (f:Int)] rfl HKN.out.r5 (by kernel_rfl)];refine loosek_writes LH hφ ((HKN.out.read W base r f R (MK W hC) hr (by have:=HRL.out;omega) HF.out.2).mono ?_);rintro e w9 ⟨hk9,h9⟩;rw[HRP.out]at h9;simp only at h9;obtain⟨sw,sc,sf,e1,e2,e3⟩:=h9;exact⟨_,e1,⟨hk9,fun x hx hne=>by simp at hx;subst hx;exact absurd rfl hne⟩,sw,sc,sf,rfl,e2,e3⟩
       simp only[addEnt];refine loosek_nil (fun W9 vals hW hkn=> ?_);simp only[knowsAllK]at hkn
       try simp only[and_true]at hkn
       simp only[fill,Act.put,zsa,zsc,zsz];obtain⟨W1,q0,q1,sw,sc,sf,hv,hpl,hrt⟩:=hkn;obtain⟨rx,hrx⟩:=hrt.row;have hrt9:=(q1.a ⟨8, [0,1,2,3,4,5,6,7], []⟩ (by simp) (.inl rfl)).2 hrt;have hpl9:=hpl.farR hrx q1.c;obtain⟨A1,d1,A2,d2,A3,d3,rfl,rfl,rfl⟩:=hpl.slices;have hW' :Keeps Wl W9 [r]:=hW;have ST9:=zh (ST.out.goR hW' hrB);have HPL9:=zh hpl9;have HRT9:=zh hrt9;have HR9:=zh (HRL9.out.keep hW' (by have:=HRX.out.2.2.1;simp;omega));have RI9:=zh (RI.out.keep hW' (by have:=HRX.out.1.2;simp;omega));have HK9:=zh (MK W9 hW');have HSW:=zh (show∀W',Keeps W9 W' [B]→Sh W' (kk:Int).toNat (.agg #[.func (.func i1) #[] c1,.func (.func i2) #[] c2,fv,wv,.func (.func i5) #[] c5])from fun W' hk=>HSV.out.rowsP (fun b' t' cs' ht hr=>(hr.keeps HK9.out).keep hk (fun hm=>by rw[List.mem_singleton]at hm;subst hm;exact Row.ne_type ST9.out.r1 (hr.keeps HK9.out) ht rfl)));rw[hv];clear hv hpl hrt hrt9 hpl9 q0 q1 hrx hW hW' LH MF MI MX MK;refine wpList_store_row rfl (.tmp 2) (.tmp 66) 29 rfl B (zP 0 p.dup p.ret p.q p.t p.b p.id p.c p.cl p.keep p.hw p.wt p.wb p.wq p.wr p.hu p.hp p.u p.pw p.pr p.code (.slice A1 p.wants.length d1) (.slice A2 p.codes.length d2) (.slice A3 p.fs.length d3)) pkZC ST9.out.r1 (by kernel_rfl) rfl (by simp[Value.oneCell']) rfl rfl ?_;intro v7 r7 k7;have hBr:B≠r∧B < r∧B≠b7∧B≠bi:=⟨by omega,by omega,by have:=HS7.out;omega,by have:=HRX.out.1.2;omega⟩;have STA:=zh (ST9.out.put k7 r7 rfl);have HPLA:=zh (HPL9.out.far (.inr trivial) ST9.out.r1 k7);have HRTA:=zh (HRT9.out.keep k7 (by have:=HRX.out.1.1;have:=HBB.out;simp;omega));have HRA:=zh (HR9.out.keep k7 (by have:=hBr.2.2.1;simp;omega));have RIA:=zh (RI9.out.keep k7 (by have:=hBr.2.2.2;simp;omega));have HKA:=zh (show Keeps w v7 []from STA.out.k);have HK7:=zh k7;clear r7 k7 ST9 HPL9 HRT9 HR9 RI9;simp only[Act.put];have x0:=STA.out.r1.cell 0;have f0:=STA.out.r1.frozen 0;simp only[zga,zgz]at x0
       go_upto_region 12 with fail
       obtain⟨v8,hv8⟩:∃v8,v7.setCell ⟨B,0,none⟩ (.int .i64 (kk:Nat))=v8:=⟨_,rfl⟩;have k8:Keeps v7 v8 [B]:=by rw[←hv8];exact Keeps.setCell _ _ _
       have r8:Row v8 B 29 (zP (kk:Nat) p.dup p.ret p.q p.t p.b p.id p.c p.cl p.keep p.hw p.wt p.wb p.wq p.wr p.hu p.hp p.u p.pw p.pr p.code (.slice A1 p.wants.length d1) (.slice A2 p.codes.length d2) (.slice A3 p.fs.length d3)):=by rw[←hv8];exact STA.out.r1.store 0 _
       rw[hv8];have ST8:=zh (STA.out.put k8 r8 rfl);have HPL8:=zh (HPLA.out.far (.inr trivial) STA.out.r1 k8);have HRT8:=zh (HRTA.out.keep k8 (by have:=HRX.out.1.1;have:=HBB.out;simp;omega));have HRR8:=zh (HRA.out.keep k8 (by have:=hBr.2.2.1;simp;omega));have RI8:=zh (RIA.out.keep k8 (by have:=hBr.2.2.2;simp;omega));have HPK:=zh (pk_sound (pkIn_iff.2 HIN.out) HRP.out).1;have HQ:=zh (show(kk:Int)=3→0≤p.q∧p.q≤3 from fun e=>pub_q (f:=f) (l:=R) (t:=t) (by have:=HRP.out;rw[e]at this;exact this));have hsh8:=HSW.out v8 (HK7.out.trans k8 (fun _ h _=>h));obtain⟨j1,e1,j2,e2,gv,hv',j5,e5,hX,K8⟩:=pkK HIN.out hsh8;injection hX with hX
       simp at hX;obtain⟨⟨rfl,rfl⟩,⟨rfl,rfl⟩,rfl,rfl,⟨rfl,rfl⟩⟩:=hX;have HKN9:=zh K8;clear hsh8 K8 k8 r8 hv8 x0 f0 STA HPLA HRTA HRA RIA HKA hBr;obtain⟨G,hG⟩:∃G,pkF p=G:=⟨_,rfl⟩;have HG:=zh hG;clear hG
       rcases HKN9.out.fl with⟨e1,e2⟩ | ⟨i7,g7,e1,hr7,hcf⟩
       ·subst e1
        have HG0:=zh (show G=0 from HG.out.symm.trans (e2 p HPK.out));clear e2;refine wp_region_lit ?_;refine wpList_val (.pointer (some ⟨b7,2,none⟩)) rfl (by kernel_rfl) ?_;refine wpList_loadc 52 (.tmp 69) ⟨b7,2,none⟩ .nilFunc rfl rfl (by kernel_rfl) (fun _=>by kernel_rfl) ((HRR8.out.cell 2).trans (by kernel_rfl)) ?_;refine wpList_val (.bool false) rfl (by kernel_rfl) ?_;simp only[Act.put,zsa,zsc,zsz]
        go_upto_region 14 with fail
        have rc:=RI8.out.cell 0;simp only[zga,zgz]at rc;obtain⟨z1,hz1⟩:∃z1,((t.length:Int)==0)=z1:=⟨_,rfl⟩
        cases z1 with
        | false=>
         have HNO:=zh (show∀p',¬PkIs (x::y::l) p' from fun p' h=>by
          rw[HLD.out]at h;obtain⟨s',h1,_,_,_,h5,h6,h7⟩:=pk_parse_no h;rw[HLN.out]at h1;injection h1 with h1;injection h1 with h1;injection h1 with e1 e2
          subst e2;rw[HKK.out.1,HRD.out,HF.out.1,HRP.out]at h7;injection h7 with h7
          injection h7 with h8 h9
          rw[h9]at hz1
          cases hz1)
         go_wp2_with fail
         refine(rdLeft_any _ base r t HRT8.out).mono ?_;rintro e w' ⟨rfl,rfl⟩
         go_wp2_with (go_at_call 30;refine(pvMust_no _).mono ?_;rintro e w' ⟨rfl,rfl⟩)
         exact ps_dies _ _ B ST8.out HNO.out rfl rfl
        | true=>
         have HT0:=zh (show t= []from by
          have:(t.length:Int)=0:=by simpa using hz1
          exact List.length_eq_zero_iff.1 (by omega))
         have hx:=HXW.out _ ST8.out.k;obtain⟨z2,hz2⟩:∃z2,(((0):Int)==(f:Int))=z2:=⟨_,rfl⟩
         cases z2 with
         | false=>
          have HNO:=zh (show∀p',¬PkIs (x::y::l) p' from fun p' h=>by
           rw[HLD.out]at h;obtain⟨s',h1,_,_,_,h5,h6,h7⟩:=pk_parse_no h;rw[HLN.out]at h1;injection h1 with h1;injection h1 with h1;injection h1 with e1 e2
           subst e2;rw[HKK.out.1,HRD.out,HF.out.1,HRP.out]at h7;injection h7 with h7
           injection h7 with h8 h9
           subst h8;rw[HG.out,HF.out.1]at h6
           first | (have h0:=HG0.out;rw[h0]at h6;rw[←h6]at hz2;simp at hz2) | (rw[h6]at hz2;simp at hz2))
          go_wp2_with fail
          refine(rdLeft_any _ base r t HRT8.out).mono ?_;rintro e w' ⟨rfl,rfl⟩
          go_wp2_with (go_at_call 30;refine(pvMust_no _).mono ?_;rintro e w' ⟨rfl,rfl⟩)
          exact ps_dies _ _ B ST8.out HNO.out rfl rfl
         | true=>
          have HFG:=zh (show pkF p=f by
           have:((0):Int)=(f:Int):=by simpa using hz2
           rw[HG.out]
           first | (have h0:=HG0.out;omega) | omega)
          have hck:=pkCheck_any p (.slice A1 p.wants.length d1) (.slice A2 p.codes.length d2) (.slice A3 p.fs.length d3) _ HPL8.out.g (pk_small (pkIn_iff.2 HIN.out) HRL.out.2 HRP.out) (HM.out.keeps ST8.out.k) (by have:=HPK.out;omega) (by have:=HPK.out;have:=HKK.out;omega);unfold pkV at hck;rw[HPK.out]at hck
          go_wp2_with fail
          refine(rdLeft_any _ base r t HRT8.out).mono ?_;rintro e w' ⟨rfl,rfl⟩
          go_wp2_with (refine wpList_loadg (by kernel_rfl) 29 (.tmp 2) rfl B 0 (by kernel_rfl) (zL (kk:Nat) p.dup p.ret p.q p.t p.b p.id p.c p.cl p.keep p.hw p.wt p.wb p.wq p.wr p.hu p.hp p.u p.pw p.pr p.code (.slice A1 p.wants.length d1) (.slice A2 p.codes.length d2) (.slice A3 p.fs.length d3)) _ (range_row ST8.out.r1) Tryz.underlying29 rfl (by kernel_rfl) ?_;refine Hid.out ?_)
          refine zh ?_;refine wpList_callg 13 #[.agg (zP (kk:Nat) p.dup p.ret p.q p.t p.b p.id p.c p.cl p.keep p.hw p.wt p.wb p.wq p.wr p.hu p.hp p.u p.pw p.pr p.code (.slice A1 p.wants.length d1) (.slice A2 p.codes.length d2) (.slice A3 p.fs.length d3))] (by kernel_rfl) (by kernel_rfl) (hck.mono ?_);rintro e w9 ⟨rfl,hk9⟩;refine .inl ⟨_,rfl, ?_⟩;replace ST8:=zh (ST8.out.go hk9);replace HPL8:=zh (HPL8.out.keeps hk9);clear hck hk9
          cases hok:pkOk p with
          | false=>
           rw[chkV_no hok];have HNO:=zh (show∀p',¬PkIs (x::y::l) p' from fun p' h=>by
            have hp:=h.1;rw[HLD.out]at h;obtain⟨s',h1,_,_,_,h5,h6,h7⟩:=pk_parse_no h;rw[HLN.out]at h1;injection h1 with h1;injection h1 with h1;injection h1 with e1 e2
            subst e2;rw[HKK.out.1,HRD.out,HF.out.1,HRP.out]at h7;injection h7 with h7
            injection h7 with h8 h9
            rw[←h8,hok]at hp
            cases hp)
           clear hok
           iterate 2
            refine wpList_valg (.bool false) (by kernel_rfl) (by kernel_rfl) ?_
           simp only[Act.put,zsa,zsc,zsz]
           go_wp2_with (go_at_call 30;refine(pvMust_no _).mono ?_;rintro e w' ⟨rfl,rfl⟩)
           exact ps_dies _ _ B ST8.out HNO.out rfl rfl
          | true=>
           rw[chkV_yes hok];have HIS:=zh (show PkIs (x::y::l) p from by
            rw[HLD.out];exact pk_parse HLN.out HN2.out (by rw[HKK.out.1];exact pkIn_iff.2 HIN.out) (by rw[HKK.out.1,HRD.out,HF.out.1];exact HRP.out) HT0.out (by rw[HF.out.1];exact HFG.out) hok)
           clear hok
           iterate 2
            refine wpList_valg (.bool true) (by kernel_rfl) (by kernel_rfl) ?_
           simp only[Act.put,zsa,zsc,zsz]
           go_upto_region 15 with(go_at_call 30;refine(pvMust_yes _).mono ?_;rintro e w' ⟨rfl,rfl⟩)
           refine wp_region_lit ?_;refine wpList_load_mid rfl 29 (.tmp 2) rfl B 0 (by kernel_rfl) (zL (kk:Nat) p.dup p.ret p.q p.t p.b p.id p.c p.cl p.keep p.hw p.wt p.wb p.wq p.wr p.hu p.hp p.u p.pw p.pr p.code (.slice A1 p.wants.length d1) (.slice A2 p.codes.length d2) (.slice A3 p.fs.length d3)) _ (range_row ST8.out.r1) Tryz.underlying29 rfl (by kernel_rfl) ?_;refine wpList_store_row rfl (.tmp 2) (.tmp 95) 29 rfl B (zP (kk:Nat) p.dup p.ret p.q p.t p.b p.id p.c p.cl p.keep p.hw p.wt p.wb p.wq p.wr p.hu p.hp p.u p.pw p.pr p.code (.slice A1 p.wants.length d1) (.slice A2 p.codes.length d2) (.slice A3 p.fs.length d3)) (zP (kk:Nat) p.dup p.ret p.q p.t p.b p.id p.c p.cl p.keep p.hw p.wt p.wb p.wq p.wr p.hu p.hp p.u p.pw p.pr p.code (.slice A1 p.wants.length d1) (.slice A2 p.codes.length d2) (.slice A3 p.fs.length d3)) ST8.out.r1 (by kernel_rfl) rfl (by simp[Value.oneCell']) rfl rfl ?_;intro va ra ka;have STA:=zh (ST8.out.put ka ra rfl);have HPLA:=zh (HPL8.out.far (.inr trivial) ST8.out.r1 ka);clear ra ka;simp only[Act.put,zsa,zsc,zsz];have d3:=STA.out.r2.cell 0;have g3:=STA.out.r2.frozen 0;simp only[zga,zgz]at d3
           go_wp2_with fail
           obtain⟨stb,kb⟩:=STA.out.err (.int .i64 0);exact ps_ends _ _ B (p:=p) (by unfold pkV;rw[HPK.out]) stb (HPLA.out.farE STA.out.r2 kb) HIS.out rfl rfl
       ·subst e1
        refine wp_region_lit ?_;refine wpList_val (.pointer (some ⟨b7,2,none⟩)) rfl (by kernel_rfl) ?_;refine wpList_loadc 52 (.tmp 69) ⟨b7,2,none⟩ (.func (.func i7) #[] g7) rfl rfl (by kernel_rfl) (fun _=>by kernel_rfl) ((HRR8.out.cell 2).trans (by kernel_rfl)) ?_;refine wpList_val (.bool true) rfl (by kernel_rfl) ?_;simp only[Act.put,zsa,zsc,zsz]
        go_upto_region 13 with fail
        have hfc:=hcf p (.slice A1 p.wants.length d1) (.slice A2 p.codes.length d2) (.slice A3 p.fs.length d3) v8 (Keeps.refl _ _) HPK.out HQ.out;unfold pkV at hfc;rw[HPK.out,HG.out]at hfc;clear hcf;refine wp_region_lit ?_;refine wpList_val (.pointer (some ⟨b7,2,none⟩)) rfl (by kernel_rfl) ?_;refine wpList_loadc 52 (.tmp 72) ⟨b7,2,none⟩ (.func (.func i7) #[] g7) rfl rfl (by kernel_rfl) (fun _=>by kernel_rfl) ((HRR8.out.cell 2).trans (by kernel_rfl)) ?_;refine wpList_load_mid rfl 29 (.tmp 2) rfl B 0 (by kernel_rfl) (zL (kk:Nat) p.dup p.ret p.q p.t p.b p.id p.c p.cl p.keep p.hw p.wt p.wb p.wq p.wr p.hu p.hp p.u p.pw p.pr p.code (.slice A1 p.wants.length d1) (.slice A2 p.codes.length d2) (.slice A3 p.fs.length d3)) _ (range_row ST8.out.r1) Tryz.underlying29 rfl (by kernel_rfl) ?_;refine wpList_callv i7 g7 #[.agg (zP (kk:Nat) p.dup p.ret p.q p.t p.b p.id p.c p.cl p.keep p.hw p.wt p.wb p.wq p.wr p.hu p.hp p.u p.pw p.pr p.code (.slice A1 p.wants.length d1) (.slice A2 p.codes.length d2) (.slice A3 p.fs.length d3))] rfl rfl hr7 (by kernel_rfl) ?_;refine hfc.mono ?_;rintro e v9 ⟨rfl,hk9⟩;refine .inl ⟨_,rfl, ?_⟩;clear hfc;replace ST8:=zh (ST8.out.go hk9);replace HPL8:=zh (HPL8.out.keeps hk9);replace HRT8:=zh (HRT8.out.keep hk9 (by simp));replace RI8:=zh (RI8.out.keeps hk9);clear hk9;simp only[Act.put,zsa,zsc,zsz]
        go_upto_region 14 with fail
        have rc:=RI8.out.cell 0;simp only[zga,zgz]at rc;obtain⟨z1,hz1⟩:∃z1,((t.length:Int)==0)=z1:=⟨_,rfl⟩
        cases z1 with
        | false=>
         have HNO:=zh (show∀p',¬PkIs (x::y::l) p' from fun p' h=>by
          rw[HLD.out]at h;obtain⟨s',h1,_,_,_,h5,h6,h7⟩:=pk_parse_no h;rw[HLN.out]at h1;injection h1 with h1;injection h1 with h1;injection h1 with e1 e2
          subst e2;rw[HKK.out.1,HRD.out,HF.out.1,HRP.out]at h7;injection h7 with h7
          injection h7 with h8 h9
          rw[h9]at hz1
          cases hz1)
         go_wp2_with fail
         refine(rdLeft_any _ base r t HRT8.out).mono ?_;rintro e w' ⟨rfl,rfl⟩
         go_wp2_with (go_at_call 30;refine(pvMust_no _).mono ?_;rintro e w' ⟨rfl,rfl⟩)
         exact ps_dies _ _ B ST8.out HNO.out rfl rfl
        | true=>
         have HT0:=zh (show t= []from by
          have:(t.length:Int)=0:=by simpa using hz1
          exact List.length_eq_zero_iff.1 (by omega))
         have hx:=HXW.out _ ST8.out.k;obtain⟨z2,hz2⟩:∃z2,((((G:Nat)):Int)==(f:Int))=z2:=⟨_,rfl⟩
         cases z2 with
         | false=>
          have HNO:=zh (show∀p',¬PkIs (x::y::l) p' from fun p' h=>by
           rw[HLD.out]at h;obtain⟨s',h1,_,_,_,h5,h6,h7⟩:=pk_parse_no h;rw[HLN.out]at h1;injection h1 with h1;injection h1 with h1;injection h1 with e1 e2
           subst e2;rw[HKK.out.1,HRD.out,HF.out.1,HRP.out]at h7;injection h7 with h7
           injection h7 with h8 h9
           subst h8;rw[HG.out,HF.out.1]at h6
           first | (have h0:=HG0.out;rw[h0]at h6;rw[←h6]at hz2;simp at hz2) | (rw[h6]at hz2;simp at hz2))
          go_wp2_with fail
          refine(rdLeft_any _ base r t HRT8.out).mono ?_;rintro e w' ⟨rfl,rfl⟩
          go_wp2_with (go_at_call 30;refine(pvMust_no _).mono ?_;rintro e w' ⟨rfl,rfl⟩)
          exact ps_dies _ _ B ST8.out HNO.out rfl rfl
         | true=>
          have HFG:=zh (show pkF p=f by
           have:(((G:Nat)):Int)=(f:Int):=by simpa using hz2
           rw[HG.out]
           first | (have h0:=HG0.out;omega) | omega)
          have hck:=pkCheck_any p (.slice A1 p.wants.length d1) (.slice A2 p.codes.length d2) (.slice A3 p.fs.length d3) _ HPL8.out.g (pk_small (pkIn_iff.2 HIN.out) HRL.out.2 HRP.out) (HM.out.keeps ST8.out.k) (by have:=HPK.out;omega) (by have:=HPK.out;have:=HKK.out;omega);unfold pkV at hck;rw[HPK.out]at hck
          go_wp2_with fail
          refine(rdLeft_any _ base r t HRT8.out).mono ?_;rintro e w' ⟨rfl,rfl⟩
          go_wp2_with (refine wpList_loadg (by kernel_rfl) 29 (.tmp 2) rfl B 0 (by kernel_rfl) (zL (kk:Nat) p.dup p.ret p.q p.t p.b p.id p.c p.cl p.keep p.hw p.wt p.wb p.wq p.wr p.hu p.hp p.u p.pw p.pr p.code (.slice A1 p.wants.length d1) (.slice A2 p.codes.length d2) (.slice A3 p.fs.length d3)) _ (range_row ST8.out.r1) Tryz.underlying29 rfl (by kernel_rfl) ?_;refine Hid.out ?_)
          refine zh ?_;refine wpList_callg 13 #[.agg (zP (kk:Nat) p.dup p.ret p.q p.t p.b p.id p.c p.cl p.keep p.hw p.wt p.wb p.wq p.wr p.hu p.hp p.u p.pw p.pr p.code (.slice A1 p.wants.length d1) (.slice A2 p.codes.length d2) (.slice A3 p.fs.length d3))] (by kernel_rfl) (by kernel_rfl) (hck.mono ?_);rintro e w9 ⟨rfl,hk9⟩;refine .inl ⟨_,rfl, ?_⟩;replace ST8:=zh (ST8.out.go hk9);replace HPL8:=zh (HPL8.out.keeps hk9);clear hck hk9
          cases hok:pkOk p with
          | false=>
           rw[chkV_no hok];have HNO:=zh (show∀p',¬PkIs (x::y::l) p' from fun p' h=>by
            have hp:=h.1;rw[HLD.out]at h;obtain⟨s',h1,_,_,_,h5,h6,h7⟩:=pk_parse_no h;rw[HLN.out]at h1;injection h1 with h1;injection h1 with h1;injection h1 with e1 e2
            subst e2;rw[HKK.out.1,HRD.out,HF.out.1,HRP.out]at h7;injection h7 with h7
            injection h7 with h8 h9
            rw[←h8,hok]at hp
            cases hp)
           clear hok
           iterate 2
            refine wpList_valg (.bool false) (by kernel_rfl) (by kernel_rfl) ?_
           simp only[Act.put,zsa,zsc,zsz]
           go_wp2_with (go_at_call 30;refine(pvMust_no _).mono ?_;rintro e w' ⟨rfl,rfl⟩)
           exact ps_dies _ _ B ST8.out HNO.out rfl rfl
          | true=>
           rw[chkV_yes hok];have HIS:=zh (show PkIs (x::y::l) p from by
            rw[HLD.out];exact pk_parse HLN.out HN2.out (by rw[HKK.out.1];exact pkIn_iff.2 HIN.out) (by rw[HKK.out.1,HRD.out,HF.out.1];exact HRP.out) HT0.out (by rw[HF.out.1];exact HFG.out) hok)
           clear hok
           iterate 2
            refine wpList_valg (.bool true) (by kernel_rfl) (by kernel_rfl) ?_
           simp only[Act.put,zsa,zsc,zsz]
           go_upto_region 15 with(go_at_call 30;refine(pvMust_yes _).mono ?_;rintro e w' ⟨rfl,rfl⟩)
           refine wp_region_lit ?_;refine wpList_load_mid rfl 29 (.tmp 2) rfl B 0 (by kernel_rfl) (zL (kk:Nat) p.dup p.ret p.q p.t p.b p.id p.c p.cl p.keep p.hw p.wt p.wb p.wq p.wr p.hu p.hp p.u p.pw p.pr p.code (.slice A1 p.wants.length d1) (.slice A2 p.codes.length d2) (.slice A3 p.fs.length d3)) _ (range_row ST8.out.r1) Tryz.underlying29 rfl (by kernel_rfl) ?_;refine wpList_store_row rfl (.tmp 2) (.tmp 95) 29 rfl B (zP (kk:Nat) p.dup p.ret p.q p.t p.b p.id p.c p.cl p.keep p.hw p.wt p.wb p.wq p.wr p.hu p.hp p.u p.pw p.pr p.code (.slice A1 p.wants.length d1) (.slice A2 p.codes.length d2) (.slice A3 p.fs.length d3)) (zP (kk:Nat) p.dup p.ret p.q p.t p.b p.id p.c p.cl p.keep p.hw p.wt p.wb p.wq p.wr p.hu p.hp p.u p.pw p.pr p.code (.slice A1 p.wants.length d1) (.slice A2 p.codes.length d2) (.slice A3 p.fs.length d3)) ST8.out.r1 (by kernel_rfl) rfl (by simp[Value.oneCell']) rfl rfl ?_;intro va ra ka;have STA:=zh (ST8.out.put ka ra rfl);have HPLA:=zh (HPL8.out.far (.inr trivial) ST8.out.r1 ka);clear ra ka;simp only[Act.put,zsa,zsc,zsz];have d3:=STA.out.r2.cell 0;have g3:=STA.out.r2.frozen 0;simp only[zga,zgz]at d3
           go_wp2_with fail
           obtain⟨stb,kb⟩:=STA.out.err (.int .i64 0);exact ps_ends _ _ B (p:=p) (by unfold pkV;rw[HPK.out]) stb (HPLA.out.farE STA.out.r2 kb) HIS.out rfl rfl
    ·rw[if_pos rfl]at hlk
     unfold shZero at hlk;have HNO:=zh (show∀p,¬PkIs (x::y::l) p from fun p h=>by
      rw[HLD.out]at h;obtain⟨s',_,_,_,_,h5,_⟩:=pk_parse_no h;rw[HKK.out.1]at h5;have:=pkIn_iff.1 (pkOk_parts h.1).1;exact hni (by omega))
     clear hsh hni
     go_wp2_with (refine wpList_store_row rfl (.tmp 7) (.tmp 48) 56 rfl w2.heap.size shZC shZC (Row.new _ _ _) rfl rfl (by simp[Value.oneCell']) rfl rfl ?_;intro w7 r7 k7;refine Hid.out ?_)
     refine zh ?_;replace ST:=zh ((ST.out.go (Keeps.alloc _ _)).goR k7 ST.out.r2.lt);clear r7 k7 hlk
     go_wp2_with (go_at_call 30;refine(pvMust_no _).mono ?_;rintro e w' ⟨rfl,rfl⟩)
     exact ps_dies _ _ B ST.out HNO.out rfl rfl
end Go.Proofs.YtahbikfbjenfpaaGreatDoor
