/- Package packet: Parse. -/
import Derived.Test.YtahbikfbjenfpaaGreatDoorPa35
set_option maxHeartbeats 8000000
set_option maxRecDepth 100000
namespace Go.Proofs.YtahbikfbjenfpaaGreatDoor
open Tryz Go.RowKit Go.Shelf

theorem nZ {P:Program}{a:Act}{o:Oper}{W:au}(i:FuncId)(cap args:Array Value){c:Call}(ho:o.op= .call c)(hr:∀(args:Array Value) (w:au),(callFunc i args).run P w= .ok (.enter i args) w)
  (he:(resolve a.eval c o.type).run P W= .ok {target:= .fn (.func i) cap,args:=args} W):(execOp a.eval o).run P W= .ok (.enter i (args++cap)) W:=by
 unfold execOp;simp only[ho,fo,he,fk];exact hr _ _
theorem wpList_want {P:Program}{Q:Exit->Act->au->Prop}{ops:Array Oper}{o:Oper}{rest:List Oper}{a:Act}{w:au}(hw:Region.wanted o (yielded ops a.tmps)=true)(h:∀K:Act->au->Prop,(∀a w,wpList P ops Q rest a w->K a w)->o.wp P a w K Q):wpList P ops Q (o::rest) a w:=by
 unfold wpList;rw[aE hw];exact .inl (h _ (λ_ _ h=>h))
theorem gr {P:Program}{Q:Exit->Act->au->Prop}{ops:Array Oper}{o:Oper}{rest:List Oper}{a:Act}{w:au}(v:Value)(hw:Region.wanted o (yielded ops a.tmps)=true)(h:(execOp a.eval o).run P w= .ok (.value v) w)(hk:wpList P ops Q rest (a.put o.dst v) w):wpList P ops Q (o::rest) a w:=
 wpList_want hw λK hK=>by unfold Oper.wp;rw[h];exact hK _ _ hk
theorem jg {P:Program}{Q:Exit->Act->au->Prop}{ops:Array Oper}{op:Oper}{rest:List Oper}{a:Act}{w:au}(hw:Region.wanted op (yielded ops a.tmps)=true)(ty:TypeId)(x:Operand)(ho:op.op= .load ty x)
  (b o:Nat) (hx:a.eval x= .pointer (some ⟨b,o,none⟩)) (cs:List Value) (d:TypeDesc) (hc:w.rangeAt b o cs)
  (hu:P.underlying ty=some d) (hd:d.isRow=true) (hi:(P.info? ty).map (·.size)=some cs.length)
  (h:wpList P ops Q rest (a.put op.dst (.agg cs.toArray)) w):wpList P ops Q (op::rest) a w:=
 wpList_want hw λ_ hK=>wp_load_mid ty x ho b o hx cs d hc hu hd hi (hK _ _ h)
theorem kH {P:Program}{Q:Exit->Act->au->Prop}{ops:Array Oper}{o:Oper}{rest:List Oper}{a:Act}{w:au}(i:FuncId)(args:Array Value)(hw:Region.wanted o (yielded ops a.tmps)=true)(he:(execOp a.eval o).run P w= .ok (.enter i args) w)
  (hc:Calls P i args w λe w' =>(∃v,e= .returned v/\wpList P ops Q rest (a.put o.dst v) w')\/(∃ps,e= .panicked ps/\Q (.panic ps) a w')):wpList P ops Q (o::rest) a w:=by
 refine wpList_want hw λK hK=> ?_
 unfold Oper.wp;rw[he];refine hc.mono ?_;rintro e w' (⟨v,rfl,h⟩ | ⟨ps,rfl,h⟩)
 ·exact hK _ _ h
 ·exact h
theorem Ia:∀n < 256,bits .and .u8 (n:Nat) 15=((n % 16:Nat):Int):=by decide
theorem jz.OG {w w' :au}{p:Pk}{sw sc sf:Value}{b:Nat}{cs:Array Value}(h:jz w p sw sc sf)(hr:Row w b 130 cs)(hk:ae w w' [b]):jz w' p sw sc sf:=by
 obtain⟨⟨A,a,e1,h1⟩,⟨B,b',e2,h2⟩,⟨C,c,e3,h3⟩⟩:=h;exact⟨⟨A,a,e1,h1.box hk hr (by decide)⟩,⟨B,b',e2,h2.box hk hr (by decide)⟩,⟨C,c,e3,h3.box hk hr (by decide)⟩⟩
theorem jz.J6 {w w' :au}{p:Pk}{sw sc sf:Value}{b:Nat}{cs:Array Value}(h:jz w p sw sc sf)(hr:Row w b 33 cs)(hk:ae w w' [b]):jz w' p sw sc sf:=by
 obtain⟨⟨A,a,e1,h1⟩,⟨B,b',e2,h2⟩,⟨C,c,e3,h3⟩⟩:=h;exact⟨⟨A,a,e1,h1.box hk hr (by decide)⟩,⟨B,b',e2,h2.box hk hr (by decide)⟩,⟨C,c,e3,h3.box hk hr (by decide)⟩⟩
theorem oD.tY {w w' :au}{fl:Int}{hs my wr rd:FuncId}{v:Value}(h:oD w fl hs my wr rd v)(hk:∀b t cs,29≠t->Row w b t cs->Row w' b t cs):oD w' fl hs my wr rd v:=by
 obtain⟨b1,b2,b3,b4,b5,e,⟨h1,h2,h3⟩,h4,h5⟩:=h;exact⟨b1,b2,b3,b4,b5,e,⟨hk _ _ _ (by decide) h1,hk _ _ _ (by decide) h2,hk _ _ _ (by decide) h3⟩,hk _ _ _ (by decide) h4,hk _ _ _ (by decide) h5⟩
theorem Sh.tY {w w' :au}{k:Nat}{v:Value}(h:Sh w k v)(hk:∀b t cs,29≠t->Row w b t cs->Row w' b t cs):Sh w' k v:=by
 unfold Sh at h ⊢
 split
 ·rename_i e;rw[aE e]at h;exact h
 rename_i e1;rw[aj e1]at h
 split
 ·rename_i e;rw[aE e]at h;exact h
 rename_i e2;rw[aj e2]at h
 split
 ·rename_i e;rw[aE e]at h;exact h
 rename_i e3;rw[aj e3]at h
 split
 ·rename_i e;rw[aE e]at h;exact oD.tY h hk
 rename_i e4;rw[aj e4]at h
 split
 ·rename_i e;rw[aE e]at h;exact oD.tY h hk
 rename_i e5;rw[aj e5]at h
 split
 ·rename_i e;rw[aE e]at h;exact oD.tY h hk
 rename_i e6;rw[aj e6]at h
 split
 ·rename_i e;rw[aE e]at h;exact h
 rename_i e7;rw[aj e7]at h
 split
 ·rename_i e;rw[aE e]at h;exact oD.tY h hk
 ·rename_i e;rw[aj e]at h;exact oD.tY h hk
theorem KB {f:Nat}{l t:aG}{p:Pk}(h:mh f l=some (p,t)):0<=p.q/\p.q<=3:=by
 unfold mh at h;rw[cj]at h;obtain⟨a,_,h⟩:=h
 split at h
 ·rw[cj]at h
  obtain⟨i,_,h⟩:=h;injection h with h
  injection h with h1 h2
  subst h1;simp only;omega
 ·injection h with h
  injection h with h1 h2
  subst h1;simp only;omega
theorem Eb {p:Pk}:¬fc [] p:=λh=>by have:=h.2;unfold gu at this;cases this
theorem Li {x:UInt8}{p:Pk}:¬fc [x] p:=λh=>by
 obtain⟨s,h1,h2,h3,_⟩:=bP h;simp at h2;omega
theorem xZ {w:au}{B bk o:Nat}{xs:List Value}(h:cG w B (some ⟨bk,o,none⟩) xs)(k:Nat):cG w B (some ⟨bk,o+k,none⟩) (xs.drop k):=λhn=>by
 obtain⟨b',o',e,h1,h2⟩:=h (by rw[dQ]at hn;omega);simp at e;obtain⟨rfl,rfl⟩:=e;exact⟨_,_,rfl,h1,λi u hu=>by rw[Nat.add_assoc];exact h2 _ _ (by rw[List.getElem?_drop]at hu;exact hu)⟩
theorem ug (w:au)(v:Value)(b:aG)(hM:lG w)(hb:b.length<=50000)(hB:Bytes w w.heap.size v b):Calls prog 14 #[v] w (DM w b):=by
 have PT:∀(fn:Fn) (first cap:Array Value) (w:au),(Instr.makeFunc fn first cap).run prog w= .ok (.func fn first cap) w:=λ_ _ _ _=>rfl
 obtain⟨W0,aV⟩:∃W',(w.alloc (.cells si 29)).alloc (.cells #[.int .i64 0] 33)=W' :=⟨_,rfl⟩;have wZ:ae w W0 []:=by rw[<-aV];exact(ae.alloc _ _).bX _
 have hr1:Row W0 w.heap.size 29 si:=by rw[<-aV];exact(Row.new w _ _).alloc _
 have hr2:Row W0 (w.heap.size+1) 33 #[.int .i64 0]:=by
  rw[<-aV];have:=Row.new (w.alloc (.cells si 29)) 33 #[.int .i64 0];rw[show(w.alloc (.cells si 29)).heap.size=w.heap.size+1 by simp]at this;exact this
 have Kr:=zh ((hB.below (wZ.below (bE _) (by simp))).mono wZ.size);have oF:=zh (λ(W' :au) (hk:ae w W' [])=>((hB.below (hk.below (bE _) (by simp))).mono hk.size:Bytes W' W'.heap.size v b));obtain⟨A,c,rfl,hc,hnil,hcm,hl2,hL⟩:=hB;have wF:=zh (show∀W',ae w W' []->cG W' W'.heap.size A (b.map bq)from λW' hk=>by
  obtain⟨A1,c1,e1,_,_,_,_,h1⟩:=oF.o W' hk;injection e1 with eA eN ec
  subst eA;exact h1)
 clear hL hnil hl2 oF
 go_enter_defers func14,ntmps14
 go_upto_region 2 with fail
 try rw[aV]
 clear aV;have HM:=zh hM;obtain⟨B,hB⟩:∃B,w.heap.size=B:=⟨_,rfl⟩;rw[hB]at hr1 hr2 ⊢
 have ST:=zh (show qy w W0 B si (.int .i64 0)from⟨wZ,hr1,hr2,by omega,rfl⟩);clear wZ hr1 hr2 hB hM
 rcases b with _ | ⟨x,_ | ⟨y,l⟩⟩
 ·skip
  go_wp2_with (go_at_call 30;refine(bK _).mono ?_;rintro e w' ⟨rfl,rfl⟩)
  exact eB _ _ B ST.o (λ_=>Eb) rfl rfl
 ·skip
  go_wp2_with (go_at_call 30;refine(bK _).mono ?_;rintro e w' ⟨rfl,rfl⟩)
  exact eB _ _ B ST.o (λ_=>Li) rfl rfl
 ·obtain⟨L,P0⟩:∃L,y::l=L:=⟨_,rfl⟩
  have Pn:=zh (show 1<=L.length by rw[<-P0];simp);have wL:=zh P0;rw[P0]at hb hc Kr wF ⊢
  clear P0;obtain⟨N,hN⟩:∃N,(x::L).length=N:=⟨_,rfl⟩;have zS:=zh (show N=L.length+1 from by rw[<-hN];rfl);rw[hN]at hb hc Kr ⊢
  clear hN;have hge:decide ((N:Int)>=2)=true:=by have:=Pn.o;have:=zS.o;simp;omega
  obtain⟨A0,c0,e0,hc1,hnil,hcm,hl2,hL⟩:=Kr.o;injection e0 with eA eN ec
  subst eA ec;clear eN;obtain⟨bk,o,rfl,hbk,_⟩:=hL (by simp);have Ms:=zh (show∀W',ae w W' []->W'.cell? ⟨bk,o,none⟩=some (.int .u8 (x.toNat:Nat))from λW' hk=>by
   obtain⟨b',o',e,h1,h2⟩:=wF.o W' hk (by simp);simp at e;obtain⟨rfl,rfl⟩:=e;exact h2 0 _ rfl)
  have ML:=zh (show cG W0 W0.heap.size (some ⟨bk,o+1,none⟩) (L.map bq)from xZ hL 1);clear hL hnil hl2 hbk hc1;have hcn:¬c=1:=by have:=Pn.o;have:=zS.o;omega
  have hn1:¬((N:Int) < 1):=by have:=zS.o;omega
  go_wp2_with (go_at_call 30;refine(cz _).mono ?_;rintro e w' ⟨rfl,rfl⟩)
  rw[show N - 1=L.length by have:=zS.o;omega];refine(Df W0 _ (c - 1) L (by have:=zS.o;omega) (by have:=zS.o;omega) ML.o).mono ?_;rintro e w1 ⟨rfl,hk1⟩;replace ST:=zh (ST.o.go hk1);have kU:=zh hk1;clear hk1;have c3:=ST.o.r2.cell 0;have f3:=ST.o.r2.frozen 0;simp only[cg,bU]at c3;unfold kC
  rcases Ca:gi L with _ | _ | ⟨n,s⟩
  ·have gZ:=zh (show∀p,¬fc (x::y::l) p from λp h=>by rw[wL.o]at h;obtain⟨s,h1,_⟩:=bP h;rw[Ca]at h1;cases h1)
   clear Ca;obtain⟨We,Nc⟩:∃W',w1.setCell ⟨B+1,0,none⟩ (.int .i64 250)=W' :=⟨_,rfl⟩;obtain⟨se,ke⟩:=ST.o.err (.int .i64 250);rw[Nc]at se ke;have SE:=zh se;have d3:=se.r2.cell 0;simp only[cg,bU]at d3;clear se ke
   go_wp2_with (go_at_call 30;refine(bK _).mono ?_;rintro e w' ⟨rfl,rfl⟩)
   exact eB _ _ B SE.o gZ.o rfl rfl
  ·have gZ:=zh (show∀p,¬fc (x::y::l) p from λp h=>by rw[wL.o]at h;obtain⟨s,h1,_⟩:=bP h;rw[Ca]at h1;cases h1)
   clear Ca;obtain⟨We,Nc⟩:∃W',w1.setCell ⟨B+1,0,none⟩ (.int .i64 0)=W' :=⟨_,rfl⟩;obtain⟨se,ke⟩:=ST.o.err (.int .i64 0);rw[Nc]at se ke;have SE:=zh se;have d3:=se.r2.cell 0;simp only[cg,bU]at d3;clear se ke
   go_wp2_with (go_at_call 30;refine(bK _).mono ?_;rintro e w' ⟨rfl,rfl⟩)
   exact eB _ _ B SE.o gZ.o rfl rfl
  ·obtain⟨g1,g2,g3,g4⟩:=nW Ca
   have Ur:=gP n;have lM:=zh Ca;have mG:=zh (show 1<=s/\s<=4/\s<=L.length/\n < 268435456 by omega);clear Ca g1 g2 g3 g4 Ur;obtain⟨We,Nc⟩:∃W',w1.setCell ⟨B+1,0,none⟩ (.int .i64 0)=W' :=⟨_,rfl⟩;obtain⟨se,ke⟩:=ST.o.err (.int .i64 0);rw[Nc]at se ke;have SE:=zh se;have d3:=se.r2.cell 0;simp only[cg,bU]at d3;have hs0:0 < s:=by have:=mG.o;omega
   have Na:wrap64 ((N:Int) - 1 - (s:Int))=(N:Int) - 1 - (s:Int):=IntWalk.wrap64_in _ (by have:=mG.o;omega);obtain⟨z,hz⟩:∃z,((N:Int) - 1 - (s:Int)==(n:Int))=z:=⟨_,rfl⟩
   cases z with
   | false=>
    have gZ:=zh (show∀p,¬fc (x::y::l) p from λp h=>by
     rw[wL.o]at h;obtain⟨s',h1,h2,_⟩:=bP h;rw[lM.o]at h1;injection h1 with h1;injection h1 with h1;injection h1 with e1 e2
     subst e2;have:=zS.o;simp at hz;omega)
    clear se ke
    go_wp2_with (go_at_call 30;refine(bK _).mono ?_;rintro e w' ⟨rfl,rfl⟩)
    exact eB _ _ B SE.o gZ.o rfl rfl
   | true=>
    have FP:=zh (show L.length - s=n by have:=zS.o;simp at hz;omega);clear se;have hx:=Ms.o We SE.o.k;have PL:=x.toNat_lt
    go_wp2_with (go_at_call 30;refine(cz _).mono ?_;rintro e w' ⟨rfl,rfl⟩)
    have ST:=zh (show qy w We B si (.int .i64 0)from SE.o);clear SE ke d3 c3 f3 Nc hz Na hs0;rw[show((x.toNat:Int) / 16)=((x.toNat / 16:Nat):Int)by omega];obtain⟨kk,hkk⟩:∃kk,x.toNat / 16=kk:=⟨_,rfl⟩;have jB:=zh (show x.toNat / 16=kk/\kk<=15 by omega);rw[hkk];clear hkk hx PL;refine(kK We).mono ?_;rintro e w2 ⟨bm,rfl,hsh,hk2⟩;have Cg:=zh (show B+1 < w2.heap.size from kB ST.o.r2.lt hk2.size);replace ST:=zh (ST.o.go hk2);clear hk2
    rcases hsh.look (kk:Int) (by omega) (by have:=jB.o;omega) true with⟨hi1,hi2,sv,hsv,hlk⟩ | ⟨hni,hlk⟩
    ·rw[aE rfl]at hlk
     obtain⟨i1,c1,i2,c2,fv,wv,i5,c5,rfl,K⟩:=NK ⟨hi1,hi2⟩ hsv;have hone:(#[.func (.func i1) #[] c1,.func (.func i2) #[] c2,fv,wv,.func (.func i5) #[] c5]:Array Value).all (·.oneCell')=true:=by
      rcases K.fl with⟨e,_⟩ | ⟨_,_,e,_⟩ <;> rcases K.wr with⟨e',_⟩ | ⟨_,_,e',_⟩ <;> (subst e e';simp[Value.oneCell'])
     have wM:=zh K;have TM:=zh hsv;have Et:=zh (And.intro hi1 hi2);clear hsh hsv K hi1 hi2
     go_wp2_with (refine wpList_store_row rfl (.tmp 7) (.tmp 48) 56 rfl w2.heap.size #[.func (.func i1) #[] c1,.func (.func i2) #[] c2,fv,wv,.func (.func i5) #[] c5] tu (Row.new _ _ _) rfl rfl hone rfl rfl ?_;intro w7 r7 k7;refine Hid.o ?_)
     refine zh ?_;replace ST:=zh ((ST.o.go (ae.alloc _ _)).IY k7 ST.o.r2.lt);have Po:=zh (show ae w2 w7 []from(ae.alloc _ _).trans k7 (λy hy hlt=>by simp at hy;omega));have Kj:=zh (show B+1 < w2.heap.size/\w2.heap.size < w7.heap.size from⟨by have:=ST.o.r2.lt;have:=Cg.o;omega,r7.lt⟩);obtain⟨b7,qu⟩:∃b7,w2.heap.size=b7:=⟨_,rfl⟩;have Ql:=zh (show w2.heap.size=b7 from qu);rw[qu]at r7 Kj ⊢
     have ku:=zh r7;clear r7 k7 hlk qu hone;have oB:wrap64 (1+(s:Int))=((1+s:Nat):Int):=by rw[IntWalk.wrap64_in _ (by have:=mG.o;omega)];omega
     have hs1:¬((N:Int) < ((1+s:Nat):Int)):=by have:=mG.o;have:=zS.o;omega
     have MT:=zh (show(L.drop s).length=N - (1+s)by have:=zS.o;rw[dQ];omega);have I7:=zh (show N<=c/\c<=maxLen from⟨hc,hcm⟩);obtain⟨R,hR⟩:∃R,L.drop s=R:=⟨_,rfl⟩;have IJ:=zh (show cG w7 w7.heap.size (some ⟨bk,o+(1+s),none⟩) (R.map bq)from by
      have:=xZ (wF.o w7 ST.o.k) (1+s);rw[eu,Nat.add_comm 1 s,dF,<-List.map_drop,hR]at this;rw[Nat.add_comm 1 s];exact this)
     rw[hR]at MT;have oe:=zh (show R.length=n/\R.length<=50000 by have:=FP.o;have:=MT.o;have:=zS.o;omega);have iz:=zh hR;clear hR
     by_cases hce:c=1+s
     ·skip
      go_wp2_with (go_at_call 30;refine(cz _).mono ?_;rintro e w' ⟨rfl,rfl⟩)
      have hby:Bytes w7 w7.heap.size (.slice (some ⟨bk,o,none⟩) (N - (1+s)) 0) R:=⟨_,_,by rw[MT.o],by have:=I7.o;have:=MT.o;omega,(λh=>by cases h),by simp[maxLen],by have:=oe.o;omega,λhn=>by have:=I7.o;have:=MT.o;rw[xF]at hn;omega⟩;refine(qH _ _ R hby).mono ?_;rintro e w8 ⟨r,rfl,cS,pG⟩;have gH:=zh cS;replace ST:=zh (ST.o.go pG);have MO:=zh (Po.o.ah pG);have Nq:=zh (ku.o.keeps pG);have RR:=zh (show b7 < w7.heap.size/\w7.heap.size<=w8.heap.size from⟨Kj.o.2,pG.size⟩);clear hby cS pG oB hs1 hce
      go_upto_region 9 with fail
      obtain⟨Wl,JV⟩:∃Wl,w8.alloc (.cells #[.pointer (some ⟨r,0,none⟩)] 74)=Wl:=⟨_,rfl⟩;have kl:ae w8 Wl []:=by rw[<-JV];exact ae.alloc _ _
      have ri:Row Wl w8.heap.size 74 #[.pointer (some ⟨r,0,none⟩)]:=by rw[<-JV];exact Row.new _ _ _
      obtain⟨bi,LV⟩:∃bi,w8.heap.size=bi:=⟨_,rfl⟩;obtain⟨base,hbase⟩:∃base,w7.heap.size=base:=⟨_,rfl⟩;rw[hbase]at gH;have hrl:base<=r/\r < bi:=by
       obtain⟨A',c',q1,q2,_⟩:=gH.o;have:=q1.lt;exact⟨q2,by omega⟩
      rw[JV,LV];rw[LV]at ri;have hbr:B+1 < r/\b7 < r/\w2.heap.size < r:=by
       have h1:=Kj.o;have h2:=RR.o;have h3:=Cg.o;have h4:=Ql.o;omega
      have xg:=zh (And.intro hrl hbr);have Ew:=zh (show B < base from by have h1:=Kj.o;have h2:=Ql.o;have h3:=Cg.o;have h4:=xg.o.1;omega);replace gH:=zh (gH.o.keep kl (by simp));replace ST:=zh (ST.o.go kl);have RI:=zh ri;have Pp:=zh (MO.o.ah kl);have IB:=zh (Nq.o.keeps kl);clear kl ri JV LV hbase hrl hbr;have JQ:=xg.o.2.1;have UH:0 < N:=by have:=zS.o;omega
      have PL:=x.toNat_lt;have MF:∀W',ae Wl W' [r]->W'.cell? ⟨b7,4,none⟩=some (.func (.func i5) #[] c5):=λW' hk=>by
       have:=(IB.o.keep hk (by have:=xg.o.2.2.1;simp;omega)).cell 4
       simpa using this
      have MI:∀W',ae Wl W' [r]->W'.cell? ⟨bi,0,none⟩=some (.pointer (some ⟨r,0,none⟩)):=λW' hk=>by
       have:=(RI.o.keep hk (by have:=xg.o.1.2;simp;omega)).cell 0
       simpa using this
      have MX:∀W',ae Wl W' [r]->W'.cell? ⟨bk,o,none⟩=some (.int .u8 (x.toNat:Nat)):=λW' hk=>Ms.o W' (ST.o.IY hk JQ).k
      have MK:∀W',ae Wl W' [r]->ae w2 W' []:=λW' hk=>Pp.o.trans hk (λy hy hlt=>by have:=xg.o.2.2.2;simp at hy;omega)
      obtain⟨f,hf⟩:∃f,x.toNat % 16=f:=⟨_,rfl⟩;have HF:=zh (show x.toNat % 16=f/\f < 16 by omega);have hand:bits .and .u8 (x.toNat:Int) 15=(f:Int):=by rw[<-hf];exact Ia _ (by omega)
      have hwf:IntKind.i64.wrap (f:Int)=(f:Int):=IntWalk.i64_in _ ⟨by omega,by have:=HF.o;omega⟩;clear hf
      rcases FE:kg (kk:Nat) f R with _ | ⟨p,t⟩
      ·have gZ:=zh (show∀p,¬fc (x::y::l) p from λp h=>by
        rw[wL.o]at h;obtain⟨s',h1,_,_,_,h5,h6,h7⟩:=bP h;rw[lM.o]at h1;injection h1 with h1;injection h1 with h1;injection h1 with e1 e2
        subst e2;rw[jB.o.1,iz.o,HF.o.1]at h7;rw[h7]at FE
        cases FE)
       have qi:=zh FE;clear FE;have LH:dI [⟨8, [], []⟩] (qQ r) (sW base r R (λ_=>R)):=iD;refine cZ [⟨8, [], []⟩] (qQ r) (sW base r R (λ_=>R)) _ 8 [59,60,65] _ rfl LH (by kernel_rfl) rfl (by kernel_rfl) ?_;apply bL 0 _ rfl (by decide)
       ·intro W vals hW ag
        clear ag;have hC:=hW.c;refine⟨?_⟩;simp only[fill];go_simp
        first | exact⟨LH.bp (ae.refl _ _),rfl⟩ | exact⟨LH.bp (ae.alloc _ _),rfl⟩
       simp only[af];apply bL 1 _ rfl (by decide)
       ·intro W vals hW ag
        have hC:=hW.c;simp only[aR]at ag
        try simp only[ai]at ag
        clear ag;have m:=MF W hC;refine⟨?_⟩;simp only[fill];go_simp
        first | exact⟨LH.bp (ae.refl _ _),rfl⟩ | exact⟨LH.bp (ae.alloc _ _),rfl⟩
       simp only[af];apply bL 2 _ rfl (by decide)
       ·intro W vals hW ag
        have hC:=hW.c;simp only[aR]at ag
        try simp only[ai]at ag
        clear ag;have m:=MI W hC;refine⟨?_⟩;simp only[fill];go_simp
        first | exact⟨LH.bp (ae.refl _ _),rfl⟩ | exact⟨LH.bp (ae.alloc _ _),rfl⟩
       simp only[af];apply bL 3 _ rfl (by decide)
       ·intro W vals hW ag
        clear ag;have hC:=hW.c;refine⟨?_⟩;simp only[fill];go_simp
        first | exact⟨LH.bp (ae.refl _ _),rfl⟩ | exact⟨LH.bp (ae.alloc _ _),rfl⟩
       simp only[af];apply bL 4 _ rfl (by decide)
       ·intro W vals hW ag
        clear ag;have hC:=hW.c;refine⟨?_⟩;simp only[fill];go_simp
        first | exact⟨LH.bp (ae.refl _ _),rfl⟩ | exact⟨LH.bp (ae.alloc _ _),rfl⟩
       simp only[af];apply bL 5 _ rfl (by decide)
       ·intro W vals hW ag
        have hC:=hW.c;simp only[aR]at ag
        try simp only[ai]at ag
        clear ag;have m:=MX W hC;refine⟨?_⟩;simp only[fill];go_simp
        first | exact⟨LH.bp (ae.refl _ _),rfl⟩ | exact⟨LH.bp (ae.alloc _ _),rfl⟩
       simp only[af];apply bL 6 _ rfl (by decide)
       ·intro W vals hW ag
        clear ag;have hC:=hW.c;refine⟨?_⟩;simp only[fill];go_simp
        first | exact⟨LH.bp (ae.refl _ _),rfl⟩ | exact⟨LH.bp (ae.alloc _ _),rfl⟩
       simp only[af];apply bL 7 _ rfl (by decide)
       ·intro W vals hW ag
        clear ag;have hC:=hW.c;refine⟨?_⟩;simp only[fill];go_simp
        first | exact⟨LH.bp (ae.refl _ _),rfl⟩ | exact⟨LH.bp (ae.alloc _ _),rfl⟩
       simp only[af];refine gA rfl (λW vals hW ag=> ?_) ?_
       ·have hC:=hW.c
        have hr:Rd W base r R:=(hW.a ⟨8, [], []⟩ (by simp) (.inl rfl)).1 gH.o;clear ag;simp only[fill,Act.put,bo,bn,bh];refine⟨rfl,i5,_,W,nZ i5 c5 #[.agg #[.pointer (some ⟨r,0,none⟩)],.int .i64 (f:Int)] rfl wM.o.r5 (by kernel_rfl), ?_⟩;refine(wM.o.read W base r f R (MK W hC) hr (by have:=oe.o;omega) HF.o.2).mono ?_;rintro e w9 ⟨kD,h9⟩;rw[qi.o]at h9;simp only at h9;subst h9;refine⟨_,rfl,λa' hd' ht' => ?_⟩;obtain⟨t',d'⟩:=a';simp only at hd';subst hd';have t2:=ht' 2 (uN (by kernel_rfl));have t3:=ht' 3 (uN (by kernel_rfl));simp only[Exit.then];exact eB w9 t' B ((ST.o.IY hC JQ).IY kD JQ) gZ.o (by rw[ou,t2];rfl) (by rw[ou,t3];rfl)
       simp only[af];refine bC 9 rfl (by decide) (by kernel_rfl) ?_;simp only[af];exact iq
      ·have qi:=zh FE
       clear FE;have LH:dI [⟨8, [0,1,2,3,4,5,6,7], []⟩] (qQ r) (sW base r t (λ_=>R)):=iD;refine bS [⟨8, [0,1,2,3,4,5,6,7], []⟩] (qQ r) (sW base r t (λ_=>R)) _ 9 LH (by kernel_rfl) rfl (by kernel_rfl) ?_;simp only[dc,dg,dF,dK];apply aU 0 _ rfl
       ·intro W vals hW ag
        clear ag;have hC:=hW.c;refine⟨?_⟩;simp only[fill];go_simp
        first | exact⟨LH.bp (ae.refl _ _),rfl⟩ | exact⟨LH.bp (ae.alloc _ _),rfl⟩
       simp only[af];apply aU 1 _ rfl
       ·intro W vals hW ag
        have hC:=hW.c;simp only[aR]at ag
        try simp only[ai]at ag
        clear ag;have m:=MF W hC;refine⟨?_⟩;simp only[fill];go_simp
        first | exact⟨LH.bp (ae.refl _ _),rfl⟩ | exact⟨LH.bp (ae.alloc _ _),rfl⟩
       simp only[af];apply aU 2 _ rfl
       ·intro W vals hW ag
        have hC:=hW.c;simp only[aR]at ag
        try simp only[ai]at ag
        clear ag;have m:=MI W hC;refine⟨?_⟩;simp only[fill];go_simp
        first | exact⟨LH.bp (ae.refl _ _),rfl⟩ | exact⟨LH.bp (ae.alloc _ _),rfl⟩
       simp only[af];apply aU 3 _ rfl
       ·intro W vals hW ag
        clear ag;have hC:=hW.c;refine⟨?_⟩;simp only[fill];go_simp
        first | exact⟨LH.bp (ae.refl _ _),rfl⟩ | exact⟨LH.bp (ae.alloc _ _),rfl⟩
       simp only[af];apply aU 4 _ rfl
       ·intro W vals hW ag
        clear ag;have hC:=hW.c;refine⟨?_⟩;simp only[fill];go_simp
        first | exact⟨LH.bp (ae.refl _ _),rfl⟩ | exact⟨LH.bp (ae.alloc _ _),rfl⟩
       simp only[af];apply aU 5 _ rfl
       ·intro W vals hW ag
        have hC:=hW.c;simp only[aR]at ag
        try simp only[ai]at ag
        clear ag;have m:=MX W hC;refine⟨?_⟩;simp only[fill];go_simp
        first | exact⟨LH.bp (ae.refl _ _),rfl⟩ | exact⟨LH.bp (ae.alloc _ _),rfl⟩
       simp only[af];apply aU 6 _ rfl
       ·intro W vals hW ag
        clear ag;have hC:=hW.c;refine⟨?_⟩;simp only[fill];go_simp
        first | exact⟨LH.bp (ae.refl _ _),rfl⟩ | exact⟨LH.bp (ae.alloc _ _),rfl⟩
       simp only[af];apply aU 7 _ rfl
       ·intro W vals hW ag
        clear ag;have hC:=hW.c;refine⟨?_⟩;simp only[fill];go_simp
        first | exact⟨LH.bp (ae.refl _ _),rfl⟩ | exact⟨LH.bp (ae.alloc _ _),rfl⟩
       simp only[af];refine bZ 8 (λv W' =>∃sw sc sf,v=eO {p with k:=0} sw sc sf/\jz W' p sw sc sf/\Rd W' base r t) rfl (λW vals hW ag φ' hφ=> ?_) ?_
       ·have hC:=hW.c
        have hr:Rd W base r R:=(hW.a ⟨8, [0,1,2,3,4,5,6,7], []⟩ (by simp) (.inl rfl)).1 gH.o;clear ag;refine⟨?_⟩;rw[aE (by kernel_rfl),nZ i5 c5 #[.agg #[.pointer (some ⟨r,0,none⟩)],.int .i64 (f:Int)] rfl wM.o.r5 (by kernel_rfl)];refine dA LH hφ ((wM.o.read W base r f R (MK W hC) hr (by have:=oe.o;omega) HF.o.2).mono ?_);rintro e w9 ⟨kD,h9⟩;rw[qi.o]at h9;simp only at h9;obtain⟨sw,sc,sf,e1,e2,e3⟩:=h9;exact⟨_,e1,⟨kD,λx hx hne=>by simp at hx;subst hx;exact absurd rfl hne⟩,sw,sc,sf,rfl,e2,e3⟩
       simp only[af];refine eJ (λW9 vals hW ag=> ?_);simp only[df]at ag
       try simp only[ai]at ag
       simp only[fill,Act.put,bo,bn,bh];obtain⟨W1,q0,q1,sw,sc,sf,hv,hpl,LI⟩:=ag;obtain⟨rx,Od⟩:=LI.row;have G5:=(q1.a ⟨8, [0,1,2,3,4,5,6,7], []⟩ (by simp) (.inl rfl)).2 LI;have G7:=hpl.OG Od q1.c;obtain⟨A1,d1,A2,d2,A3,d3,rfl,rfl,rfl⟩:=hpl.slices;have FD :ae Wl W9 [r]:=hW;have jZ:=zh (ST.o.IY FD JQ);have IE:=zh G7;have IA:=zh G5;have MA:=zh (IB.o.keep FD (by have:=xg.o.2.2.1;simp;omega));have OU:=zh (RI.o.keep FD (by have:=xg.o.1.2;simp;omega));have MP:=zh (MK W9 FD);have F3:=zh (show∀W',ae W9 W' [B]->Sh W' (kk:Int).toNat (.agg #[.func (.func i1) #[] c1,.func (.func i2) #[] c2,fv,wv,.func (.func i5) #[] c5])from λW' hk=>TM.o.tY (λb' t' cs' ht hr=>(hr.keeps MP.o).keep hk (λhm=>by rw[rD]at hm;subst hm;exact Row.fI jZ.o.r1 (hr.keeps MP.o) ht rfl)));rw[hv];clear hv hpl LI G5 G7 q0 q1 Od hW FD LH MF MI MX MK;refine wpList_store_row rfl (.tmp 2) (.tmp 66) 29 rfl B (uF 0 p A1 d1 A2 d2 A3 d3) si jZ.o.r1 (by kernel_rfl) rfl (by simp[Value.oneCell']) rfl rfl ?_;intro v7 r7 k7;have Hd:B≠r/\B < r/\B≠b7/\B≠bi:=⟨by omega,by omega,by have:=Kj.o;omega,by have:=xg.o.1.2;omega⟩;have pQ:=zh (jZ.o.put k7 r7 rfl);have tQ:=zh (IE.o.far (.inr trivial) jZ.o.r1 k7);have Iz:=zh (IA.o.keep k7 (by have:=xg.o.1.1;have:=Ew.o;simp;omega));have O8:=zh (MA.o.keep k7 (by have:=Hd.2.2.1;simp;omega));have OT:=zh (OU.o.keep k7 (by have:=Hd.2.2.2;simp;omega));have R9:=zh (show ae w v7 []from pQ.o.k);have iN:=zh k7;clear r7 k7 jZ IE IA MA OU;simp only[Act.put];have x0:=pQ.o.r1.cell 0;have f0:=pQ.o.r1.frozen 0;simp only[cg,bU]at x0
       go_upto_region 12 with fail
       obtain⟨v8,Bq⟩:∃v8,v7.setCell ⟨B,0,none⟩ (.int .i64 (kk:Nat))=v8:=⟨_,rfl⟩;have k8:ae v7 v8 [B]:=by rw[<-Bq];exact ae.setCell _ _ _
       have r8:Row v8 B 29 (uF (kk:Nat) p A1 d1 A2 d2 A3 d3):=by rw[<-Bq];exact pQ.o.r1.store 0 _
       rw[Bq];have eZ:=zh (pQ.o.put k8 r8 rfl);have mH:=zh (tQ.o.far (.inr trivial) pQ.o.r1 k8);have pR:=zh (Iz.o.keep k8 (by have:=xg.o.1.1;have:=Ew.o;simp;omega));have DS:=zh (O8.o.keep k8 (by have:=Hd.2.2.1;simp;omega));have Kg:=zh (OT.o.keep k8 (by have:=Hd.2.2.2;simp;omega));have wD:=zh (r9 (bW.2 Et.o) qi.o).1;have HQ:=zh (show(kk:Int)=3->0<=p.q/\p.q<=3 from λe=>KB (f:=f) (l:=R) (t:=t) (by have:=qi.o;rw[e]at this;exact this));have G3:=F3.o v8 (iN.o.trans k8 (λ_ h _=>h));obtain⟨j1,e1,j2,e2,gv,hv',j5,e5,hX,K8⟩:=NK Et.o G3;injection hX with hX
       simp at hX;obtain⟨⟨rfl,rfl⟩,⟨rfl,rfl⟩,rfl,rfl,⟨rfl,rfl⟩⟩:=hX;have MN:=zh K8;clear G3 K8 k8 r8 Bq x0 f0 pQ tQ Iz O8 OT R9 Hd;obtain⟨G,hG⟩:∃G,kM p=G:=⟨_,rfl⟩;have HG:=zh hG;clear hG
       rcases MN.o.fl with⟨e1,e2⟩ | ⟨i7,g7,e1,QV,KI⟩
       ·subst e1
        have Ko:=zh (show G=0 from HG.o.symm.trans (e2 p wD.o));clear e2;refine cV ?_;refine aA (.pointer (some ⟨b7,2,none⟩)) rfl (by kernel_rfl) ?_;refine bO 52 (.tmp 69) ⟨b7,2,none⟩ .nilFunc rfl rfl (by kernel_rfl) (λ_=>by kernel_rfl) ((DS.o.cell 2).trans (by kernel_rfl)) ?_;refine aA (.bool false) rfl (by kernel_rfl) ?_;simp only[Act.put,bo,bn,bh]
        go_upto_region 14 with fail
        have rc:=Kg.o.cell 0;simp only[cg,bU]at rc;obtain⟨z1,hz1⟩:∃z1,((t.length:Int)==0)=z1:=⟨_,rfl⟩
        cases z1 with
        | false=>
         have gZ:=zh (show∀p',¬fc (x::y::l) p' from λp' h=>by
          rw[wL.o]at h;obtain⟨s',h1,_,_,_,h5,h6,h7⟩:=bP h;rw[lM.o]at h1;injection h1 with h1;injection h1 with h1;injection h1 with e1 e2
          subst e2;rw[jB.o.1,iz.o,HF.o.1,qi.o]at h7;injection h7 with h7
          injection h7 with h8 h9
          rw[h9]at hz1
          cases hz1)
         go_wp2_with fail
         refine(dm _ base r t pR.o).mono ?_;rintro e w' ⟨rfl,rfl⟩
         go_wp2_with (go_at_call 30;refine(bK _).mono ?_;rintro e w' ⟨rfl,rfl⟩)
         exact eB _ _ B eZ.o gZ.o rfl rfl
        | true=>
         have Mv:=zh (show t= []from by
          have:(t.length:Int)=0:=by simpa using hz1
          exact List.length_eq_zero_iff.1 (by omega))
         have hx:=Ms.o _ eZ.o.k;obtain⟨z2,hz2⟩:∃z2,(((0):Int)==(f:Int))=z2:=⟨_,rfl⟩
         cases z2 with
         | false=>
          have gZ:=zh (show∀p',¬fc (x::y::l) p' from λp' h=>by
           rw[wL.o]at h;obtain⟨s',h1,_,_,_,h5,h6,h7⟩:=bP h;rw[lM.o]at h1;injection h1 with h1;injection h1 with h1;injection h1 with e1 e2
           subst e2;rw[jB.o.1,iz.o,HF.o.1,qi.o]at h7;injection h7 with h7
           injection h7 with h8 h9
           subst h8;rw[HG.o,HF.o.1]at h6
           first | (have h0:=Ko.o;rw[h0]at h6;rw[<-h6]at hz2;simp at hz2) | (rw[h6]at hz2;simp at hz2))
          go_wp2_with fail
          refine(dm _ base r t pR.o).mono ?_;rintro e w' ⟨rfl,rfl⟩
          go_wp2_with (go_at_call 30;refine(bK _).mono ?_;rintro e w' ⟨rfl,rfl⟩)
          exact eB _ _ B eZ.o gZ.o rfl rfl
         | true=>
          have MS:=zh (show kM p=f by
           have:((0):Int)=(f:Int):=by simpa using hz2
           rw[HG.o]
           first | (have h0:=Ko.o;omega) | omega)
          have zm:=jW p (.slice A1 p.wants.length d1) (.slice A2 p.aF.length d2) (.slice A3 p.fs.length d3) _ mH.o.g (o6 (bW.2 Et.o) oe.o.2 qi.o) (HM.o.keeps eZ.o.k) (by have:=wD.o;omega) (by have:=wD.o;have:=jB.o;omega);unfold eO at zm;rw[wD.o]at zm
          go_wp2_with fail
          refine(dm _ base r t pR.o).mono ?_;rintro e w' ⟨rfl,rfl⟩
          go_wp2_with (refine jg (by kernel_rfl) 29 (.tmp 2) rfl B 0 (by kernel_rfl) (FT (kk:Nat) p A1 d1 A2 d2 A3 d3) _ (aD eZ.o.r1) underlying29 rfl (by kernel_rfl) ?_;refine Hid.o ?_)
          refine zh ?_;refine kH 13 #[.agg (uF (kk:Nat) p A1 d1 A2 d2 A3 d3)] (by kernel_rfl) (by kernel_rfl) (zm.mono ?_);rintro e w9 ⟨rfl,kD⟩;refine .inl ⟨_,rfl, ?_⟩;replace eZ:=zh (eZ.o.go kD);replace mH:=zh (mH.o.keeps kD);clear zm kD
          cases hok:fD p with
          | false=>
           rw[qc hok];have gZ:=zh (show∀p',¬fc (x::y::l) p' from λp' h=>by
            have hp:=h.1;rw[wL.o]at h;obtain⟨s',h1,_,_,_,h5,h6,h7⟩:=bP h;rw[lM.o]at h1;injection h1 with h1;injection h1 with h1;injection h1 with e1 e2
            subst e2;rw[jB.o.1,iz.o,HF.o.1,qi.o]at h7;injection h7 with h7
            injection h7 with h8 h9
            rw[<-h8,hok]at hp
            cases hp)
           clear hok
           iterate 2
            refine gr (.bool false) (by kernel_rfl) (by kernel_rfl) ?_
           simp only[Act.put,bo,bn,bh]
           go_wp2_with (go_at_call 30;refine(bK _).mono ?_;rintro e w' ⟨rfl,rfl⟩)
           exact eB _ _ B eZ.o gZ.o rfl rfl
          | true=>
           rw[pM hok];have DX:=zh (show fc (x::y::l) p from by
            rw[wL.o];exact r_ lM.o FP.o (by rw[jB.o.1];exact bW.2 Et.o) (by rw[jB.o.1,iz.o,HF.o.1];exact qi.o) Mv.o (by rw[HF.o.1];exact MS.o) hok)
           clear hok
           iterate 2
            refine gr (.bool true) (by kernel_rfl) (by kernel_rfl) ?_
           simp only[Act.put,bo,bn,bh]
           go_upto_region 15 with(go_at_call 30;refine(cz _).mono ?_;rintro e w' ⟨rfl,rfl⟩)
           refine cV ?_;refine wpList_load_mid rfl 29 (.tmp 2) rfl B 0 (by kernel_rfl) (FT (kk:Nat) p A1 d1 A2 d2 A3 d3) _ (aD eZ.o.r1) underlying29 rfl (by kernel_rfl) ?_;refine wpList_store_row rfl (.tmp 2) (.tmp 95) 29 rfl B (uF (kk:Nat) p A1 d1 A2 d2 A3 d3) (uF (kk:Nat) p A1 d1 A2 d2 A3 d3) eZ.o.r1 (by kernel_rfl) rfl (by simp[Value.oneCell']) rfl rfl ?_;intro va ra ka;have pQ:=zh (eZ.o.put ka ra rfl);have tQ:=zh (mH.o.far (.inr trivial) eZ.o.r1 ka);clear ra ka;simp only[Act.put,bo,bn,bh];have d3:=pQ.o.r2.cell 0;have g3:=pQ.o.r2.frozen 0;simp only[cg,bU]at d3
           go_wp2_with fail
           obtain⟨La,kb⟩:=pQ.o.err (.int .i64 0);exact uI _ _ B (p:=p) (by unfold eO;rw[wD.o]) La (tQ.o.J6 pQ.o.r2 kb) DX.o rfl rfl
       ·subst e1
        refine cV ?_;refine aA (.pointer (some ⟨b7,2,none⟩)) rfl (by kernel_rfl) ?_;refine bO 52 (.tmp 69) ⟨b7,2,none⟩ (.func (.func i7) #[] g7) rfl rfl (by kernel_rfl) (λ_=>by kernel_rfl) ((DS.o.cell 2).trans (by kernel_rfl)) ?_;refine aA (.bool true) rfl (by kernel_rfl) ?_;simp only[Act.put,bo,bn,bh]
        go_upto_region 13 with fail
        have hfc:=KI p (.slice A1 p.wants.length d1) (.slice A2 p.aF.length d2) (.slice A3 p.fs.length d3) v8 (ae.refl _ _) wD.o HQ.o;unfold eO at hfc;rw[wD.o,HG.o]at hfc;clear KI;refine cV ?_;refine aA (.pointer (some ⟨b7,2,none⟩)) rfl (by kernel_rfl) ?_;refine bO 52 (.tmp 72) ⟨b7,2,none⟩ (.func (.func i7) #[] g7) rfl rfl (by kernel_rfl) (λ_=>by kernel_rfl) ((DS.o.cell 2).trans (by kernel_rfl)) ?_;refine wpList_load_mid rfl 29 (.tmp 2) rfl B 0 (by kernel_rfl) (FT (kk:Nat) p A1 d1 A2 d2 A3 d3) _ (aD eZ.o.r1) underlying29 rfl (by kernel_rfl) ?_;refine kG i7 g7 #[.agg (uF (kk:Nat) p A1 d1 A2 d2 A3 d3)] rfl rfl QV (by kernel_rfl) ?_;refine hfc.mono ?_;rintro e v9 ⟨rfl,kD⟩;refine .inl ⟨_,rfl, ?_⟩;clear hfc;replace eZ:=zh (eZ.o.go kD);replace mH:=zh (mH.o.keeps kD);replace pR:=zh (pR.o.keep kD (by simp));replace Kg:=zh (Kg.o.keeps kD);clear kD;simp only[Act.put,bo,bn,bh]
        go_upto_region 14 with fail
        have rc:=Kg.o.cell 0;simp only[cg,bU]at rc;obtain⟨z1,hz1⟩:∃z1,((t.length:Int)==0)=z1:=⟨_,rfl⟩
        cases z1 with
        | false=>
         have gZ:=zh (show∀p',¬fc (x::y::l) p' from λp' h=>by
          rw[wL.o]at h;obtain⟨s',h1,_,_,_,h5,h6,h7⟩:=bP h;rw[lM.o]at h1;injection h1 with h1;injection h1 with h1;injection h1 with e1 e2
          subst e2;rw[jB.o.1,iz.o,HF.o.1,qi.o]at h7;injection h7 with h7
          injection h7 with h8 h9
          rw[h9]at hz1
          cases hz1)
         go_wp2_with fail
         refine(dm _ base r t pR.o).mono ?_;rintro e w' ⟨rfl,rfl⟩
         go_wp2_with (go_at_call 30;refine(bK _).mono ?_;rintro e w' ⟨rfl,rfl⟩)
         exact eB _ _ B eZ.o gZ.o rfl rfl
        | true=>
         have Mv:=zh (show t= []from by
          have:(t.length:Int)=0:=by simpa using hz1
          exact List.length_eq_zero_iff.1 (by omega))
         have hx:=Ms.o _ eZ.o.k;obtain⟨z2,hz2⟩:∃z2,((((G:Nat)):Int)==(f:Int))=z2:=⟨_,rfl⟩
         cases z2 with
         | false=>
          have gZ:=zh (show∀p',¬fc (x::y::l) p' from λp' h=>by
           rw[wL.o]at h;obtain⟨s',h1,_,_,_,h5,h6,h7⟩:=bP h;rw[lM.o]at h1;injection h1 with h1;injection h1 with h1;injection h1 with e1 e2
           subst e2;rw[jB.o.1,iz.o,HF.o.1,qi.o]at h7;injection h7 with h7
           injection h7 with h8 h9
           subst h8;rw[HG.o,HF.o.1]at h6
           first | (have h0:=Ko.o;rw[h0]at h6;rw[<-h6]at hz2;simp at hz2) | (rw[h6]at hz2;simp at hz2))
          go_wp2_with fail
          refine(dm _ base r t pR.o).mono ?_;rintro e w' ⟨rfl,rfl⟩
          go_wp2_with (go_at_call 30;refine(bK _).mono ?_;rintro e w' ⟨rfl,rfl⟩)
          exact eB _ _ B eZ.o gZ.o rfl rfl
         | true=>
          have MS:=zh (show kM p=f by
           have:(((G:Nat)):Int)=(f:Int):=by simpa using hz2
           rw[HG.o]
           first | (have h0:=Ko.o;omega) | omega)
          have zm:=jW p (.slice A1 p.wants.length d1) (.slice A2 p.aF.length d2) (.slice A3 p.fs.length d3) _ mH.o.g (o6 (bW.2 Et.o) oe.o.2 qi.o) (HM.o.keeps eZ.o.k) (by have:=wD.o;omega) (by have:=wD.o;have:=jB.o;omega);unfold eO at zm;rw[wD.o]at zm
          go_wp2_with fail
          refine(dm _ base r t pR.o).mono ?_;rintro e w' ⟨rfl,rfl⟩
          go_wp2_with (refine jg (by kernel_rfl) 29 (.tmp 2) rfl B 0 (by kernel_rfl) (FT (kk:Nat) p A1 d1 A2 d2 A3 d3) _ (aD eZ.o.r1) underlying29 rfl (by kernel_rfl) ?_;refine Hid.o ?_)
          refine zh ?_;refine kH 13 #[.agg (uF (kk:Nat) p A1 d1 A2 d2 A3 d3)] (by kernel_rfl) (by kernel_rfl) (zm.mono ?_);rintro e w9 ⟨rfl,kD⟩;refine .inl ⟨_,rfl, ?_⟩;replace eZ:=zh (eZ.o.go kD);replace mH:=zh (mH.o.keeps kD);clear zm kD
          cases hok:fD p with
          | false=>
           rw[qc hok];have gZ:=zh (show∀p',¬fc (x::y::l) p' from λp' h=>by
            have hp:=h.1;rw[wL.o]at h;obtain⟨s',h1,_,_,_,h5,h6,h7⟩:=bP h;rw[lM.o]at h1;injection h1 with h1;injection h1 with h1;injection h1 with e1 e2
            subst e2;rw[jB.o.1,iz.o,HF.o.1,qi.o]at h7;injection h7 with h7
            injection h7 with h8 h9
            rw[<-h8,hok]at hp
            cases hp)
           clear hok
           iterate 2
            refine gr (.bool false) (by kernel_rfl) (by kernel_rfl) ?_
           simp only[Act.put,bo,bn,bh]
           go_wp2_with (go_at_call 30;refine(bK _).mono ?_;rintro e w' ⟨rfl,rfl⟩)
           exact eB _ _ B eZ.o gZ.o rfl rfl
          | true=>
           rw[pM hok];have DX:=zh (show fc (x::y::l) p from by
            rw[wL.o];exact r_ lM.o FP.o (by rw[jB.o.1];exact bW.2 Et.o) (by rw[jB.o.1,iz.o,HF.o.1];exact qi.o) Mv.o (by rw[HF.o.1];exact MS.o) hok)
           clear hok
           iterate 2
            refine gr (.bool true) (by kernel_rfl) (by kernel_rfl) ?_
           simp only[Act.put,bo,bn,bh]
           go_upto_region 15 with(go_at_call 30;refine(cz _).mono ?_;rintro e w' ⟨rfl,rfl⟩)
           refine cV ?_;refine wpList_load_mid rfl 29 (.tmp 2) rfl B 0 (by kernel_rfl) (FT (kk:Nat) p A1 d1 A2 d2 A3 d3) _ (aD eZ.o.r1) underlying29 rfl (by kernel_rfl) ?_;refine wpList_store_row rfl (.tmp 2) (.tmp 95) 29 rfl B (uF (kk:Nat) p A1 d1 A2 d2 A3 d3) (uF (kk:Nat) p A1 d1 A2 d2 A3 d3) eZ.o.r1 (by kernel_rfl) rfl (by simp[Value.oneCell']) rfl rfl ?_;intro va ra ka;have pQ:=zh (eZ.o.put ka ra rfl);have tQ:=zh (mH.o.far (.inr trivial) eZ.o.r1 ka);clear ra ka;simp only[Act.put,bo,bn,bh];have d3:=pQ.o.r2.cell 0;have g3:=pQ.o.r2.frozen 0;simp only[cg,bU]at d3
           go_wp2_with fail
           obtain⟨La,kb⟩:=pQ.o.err (.int .i64 0);exact uI _ _ B (p:=p) (by unfold eO;rw[wD.o]) La (tQ.o.J6 pQ.o.r2 kb) DX.o rfl rfl
     ·skip
      go_wp2_with (go_at_call 30;refine(cz _).mono ?_;rintro e w' ⟨rfl,rfl⟩)
      have hby:Bytes w7 w7.heap.size (.slice (some ⟨bk,o+(1+s),none⟩) (N - (1+s)) (c - (1+s))) R:=⟨_,_,by rw[MT.o],by have:=I7.o;have:=MT.o;omega,(λh=>by cases h),by have:=I7.o;omega,by have:=oe.o;omega,IJ.o⟩;refine(qH _ _ R hby).mono ?_;rintro e w8 ⟨r,rfl,cS,pG⟩;have gH:=zh cS;replace ST:=zh (ST.o.go pG);have MO:=zh (Po.o.ah pG);have Nq:=zh (ku.o.keeps pG);have RR:=zh (show b7 < w7.heap.size/\w7.heap.size<=w8.heap.size from⟨Kj.o.2,pG.size⟩);clear hby cS pG oB hs1 hce
      go_upto_region 9 with fail
      obtain⟨Wl,JV⟩:∃Wl,w8.alloc (.cells #[.pointer (some ⟨r,0,none⟩)] 74)=Wl:=⟨_,rfl⟩;have kl:ae w8 Wl []:=by rw[<-JV];exact ae.alloc _ _
      have ri:Row Wl w8.heap.size 74 #[.pointer (some ⟨r,0,none⟩)]:=by rw[<-JV];exact Row.new _ _ _
      obtain⟨bi,LV⟩:∃bi,w8.heap.size=bi:=⟨_,rfl⟩;obtain⟨base,hbase⟩:∃base,w7.heap.size=base:=⟨_,rfl⟩;rw[hbase]at gH;have hrl:base<=r/\r < bi:=by
       obtain⟨A',c',q1,q2,_⟩:=gH.o;have:=q1.lt;exact⟨q2,by omega⟩
      rw[JV,LV];rw[LV]at ri;have hbr:B+1 < r/\b7 < r/\w2.heap.size < r:=by
       have h1:=Kj.o;have h2:=RR.o;have h3:=Cg.o;have h4:=Ql.o;omega
      have xg:=zh (And.intro hrl hbr);have Ew:=zh (show B < base from by have h1:=Kj.o;have h2:=Ql.o;have h3:=Cg.o;have h4:=xg.o.1;omega);replace gH:=zh (gH.o.keep kl (by simp));replace ST:=zh (ST.o.go kl);have RI:=zh ri;have Pp:=zh (MO.o.ah kl);have IB:=zh (Nq.o.keeps kl);clear kl ri JV LV hbase hrl hbr;have JQ:=xg.o.2.1;have UH:0 < N:=by have:=zS.o;omega
      have PL:=x.toNat_lt;have MF:∀W',ae Wl W' [r]->W'.cell? ⟨b7,4,none⟩=some (.func (.func i5) #[] c5):=λW' hk=>by
       have:=(IB.o.keep hk (by have:=xg.o.2.2.1;simp;omega)).cell 4
       simpa using this
      have MI:∀W',ae Wl W' [r]->W'.cell? ⟨bi,0,none⟩=some (.pointer (some ⟨r,0,none⟩)):=λW' hk=>by
       have:=(RI.o.keep hk (by have:=xg.o.1.2;simp;omega)).cell 0
       simpa using this
      have MX:∀W',ae Wl W' [r]->W'.cell? ⟨bk,o,none⟩=some (.int .u8 (x.toNat:Nat)):=λW' hk=>Ms.o W' (ST.o.IY hk JQ).k
      have MK:∀W',ae Wl W' [r]->ae w2 W' []:=λW' hk=>Pp.o.trans hk (λy hy hlt=>by have:=xg.o.2.2.2;simp at hy;omega)
      obtain⟨f,hf⟩:∃f,x.toNat % 16=f:=⟨_,rfl⟩;have HF:=zh (show x.toNat % 16=f/\f < 16 by omega);have hand:bits .and .u8 (x.toNat:Int) 15=(f:Int):=by rw[<-hf];exact Ia _ (by omega)
      have hwf:IntKind.i64.wrap (f:Int)=(f:Int):=IntWalk.i64_in _ ⟨by omega,by have:=HF.o;omega⟩;clear hf
      rcases FE:kg (kk:Nat) f R with _ | ⟨p,t⟩
      ·have gZ:=zh (show∀p,¬fc (x::y::l) p from λp h=>by
        rw[wL.o]at h;obtain⟨s',h1,_,_,_,h5,h6,h7⟩:=bP h;rw[lM.o]at h1;injection h1 with h1;injection h1 with h1;injection h1 with e1 e2
        subst e2;rw[jB.o.1,iz.o,HF.o.1]at h7;rw[h7]at FE
        cases FE)
       have qi:=zh FE;clear FE;have LH:dI [⟨8, [], []⟩] (qQ r) (sW base r R (λ_=>R)):=iD;refine cZ [⟨8, [], []⟩] (qQ r) (sW base r R (λ_=>R)) _ 8 [59,60,65] _ rfl LH (by kernel_rfl) rfl (by kernel_rfl) ?_;apply bL 0 _ rfl (by decide)
       ·intro W vals hW ag
        clear ag;have hC:=hW.c;refine⟨?_⟩;simp only[fill];go_simp
        first | exact⟨LH.bp (ae.refl _ _),rfl⟩ | exact⟨LH.bp (ae.alloc _ _),rfl⟩
       simp only[af];apply bL 1 _ rfl (by decide)
       ·intro W vals hW ag
        have hC:=hW.c;simp only[aR]at ag
        try simp only[ai]at ag
        clear ag;have m:=MF W hC;refine⟨?_⟩;simp only[fill];go_simp
        first | exact⟨LH.bp (ae.refl _ _),rfl⟩ | exact⟨LH.bp (ae.alloc _ _),rfl⟩
       simp only[af];apply bL 2 _ rfl (by decide)
       ·intro W vals hW ag
        have hC:=hW.c;simp only[aR]at ag
        try simp only[ai]at ag
        clear ag;have m:=MI W hC;refine⟨?_⟩;simp only[fill];go_simp
        first | exact⟨LH.bp (ae.refl _ _),rfl⟩ | exact⟨LH.bp (ae.alloc _ _),rfl⟩
       simp only[af];apply bL 3 _ rfl (by decide)
       ·intro W vals hW ag
        clear ag;have hC:=hW.c;refine⟨?_⟩;simp only[fill];go_simp
        first | exact⟨LH.bp (ae.refl _ _),rfl⟩ | exact⟨LH.bp (ae.alloc _ _),rfl⟩
       simp only[af];apply bL 4 _ rfl (by decide)
       ·intro W vals hW ag
        clear ag;have hC:=hW.c;refine⟨?_⟩;simp only[fill];go_simp
        first | exact⟨LH.bp (ae.refl _ _),rfl⟩ | exact⟨LH.bp (ae.alloc _ _),rfl⟩
       simp only[af];apply bL 5 _ rfl (by decide)
       ·intro W vals hW ag
        have hC:=hW.c;simp only[aR]at ag
        try simp only[ai]at ag
        clear ag;have m:=MX W hC;refine⟨?_⟩;simp only[fill];go_simp
        first | exact⟨LH.bp (ae.refl _ _),rfl⟩ | exact⟨LH.bp (ae.alloc _ _),rfl⟩
       simp only[af];apply bL 6 _ rfl (by decide)
       ·intro W vals hW ag
        clear ag;have hC:=hW.c;refine⟨?_⟩;simp only[fill];go_simp
        first | exact⟨LH.bp (ae.refl _ _),rfl⟩ | exact⟨LH.bp (ae.alloc _ _),rfl⟩
       simp only[af];apply bL 7 _ rfl (by decide)
       ·intro W vals hW ag
        clear ag;have hC:=hW.c;refine⟨?_⟩;simp only[fill];go_simp
        first | exact⟨LH.bp (ae.refl _ _),rfl⟩ | exact⟨LH.bp (ae.alloc _ _),rfl⟩
       simp only[af];refine gA rfl (λW vals hW ag=> ?_) ?_
       ·have hC:=hW.c
        have hr:Rd W base r R:=(hW.a ⟨8, [], []⟩ (by simp) (.inl rfl)).1 gH.o;clear ag;simp only[fill,Act.put,bo,bn,bh];refine⟨rfl,i5,_,W,nZ i5 c5 #[.agg #[.pointer (some ⟨r,0,none⟩)],.int .i64 (f:Int)] rfl wM.o.r5 (by kernel_rfl), ?_⟩;refine(wM.o.read W base r f R (MK W hC) hr (by have:=oe.o;omega) HF.o.2).mono ?_;rintro e w9 ⟨kD,h9⟩;rw[qi.o]at h9;simp only at h9;subst h9;refine⟨_,rfl,λa' hd' ht' => ?_⟩;obtain⟨t',d'⟩:=a';simp only at hd';subst hd';have t2:=ht' 2 (uN (by kernel_rfl));have t3:=ht' 3 (uN (by kernel_rfl));simp only[Exit.then];exact eB w9 t' B ((ST.o.IY hC JQ).IY kD JQ) gZ.o (by rw[ou,t2];rfl) (by rw[ou,t3];rfl)
       simp only[af];refine bC 9 rfl (by decide) (by kernel_rfl) ?_;simp only[af];exact iq
      ·have qi:=zh FE
       clear FE;have LH:dI [⟨8, [0,1,2,3,4,5,6,7], []⟩] (qQ r) (sW base r t (λ_=>R)):=iD;refine bS [⟨8, [0,1,2,3,4,5,6,7], []⟩] (qQ r) (sW base r t (λ_=>R)) _ 9 LH (by kernel_rfl) rfl (by kernel_rfl) ?_;simp only[dc,dg,dF,dK];apply aU 0 _ rfl
       ·intro W vals hW ag
        clear ag;have hC:=hW.c;refine⟨?_⟩;simp only[fill];go_simp
        first | exact⟨LH.bp (ae.refl _ _),rfl⟩ | exact⟨LH.bp (ae.alloc _ _),rfl⟩
       simp only[af];apply aU 1 _ rfl
       ·intro W vals hW ag
        have hC:=hW.c;simp only[aR]at ag
        try simp only[ai]at ag
        clear ag;have m:=MF W hC;refine⟨?_⟩;simp only[fill];go_simp
        first | exact⟨LH.bp (ae.refl _ _),rfl⟩ | exact⟨LH.bp (ae.alloc _ _),rfl⟩
       simp only[af];apply aU 2 _ rfl
       ·intro W vals hW ag
        have hC:=hW.c;simp only[aR]at ag
        try simp only[ai]at ag
        clear ag;have m:=MI W hC;refine⟨?_⟩;simp only[fill];go_simp
        first | exact⟨LH.bp (ae.refl _ _),rfl⟩ | exact⟨LH.bp (ae.alloc _ _),rfl⟩
       simp only[af];apply aU 3 _ rfl
       ·intro W vals hW ag
        clear ag;have hC:=hW.c;refine⟨?_⟩;simp only[fill];go_simp
        first | exact⟨LH.bp (ae.refl _ _),rfl⟩ | exact⟨LH.bp (ae.alloc _ _),rfl⟩
       simp only[af];apply aU 4 _ rfl
       ·intro W vals hW ag
        clear ag;have hC:=hW.c;refine⟨?_⟩;simp only[fill];go_simp
        first | exact⟨LH.bp (ae.refl _ _),rfl⟩ | exact⟨LH.bp (ae.alloc _ _),rfl⟩
       simp only[af];apply aU 5 _ rfl
       ·intro W vals hW ag
        have hC:=hW.c;simp only[aR]at ag
        try simp only[ai]at ag
        clear ag;have m:=MX W hC;refine⟨?_⟩;simp only[fill];go_simp
        first | exact⟨LH.bp (ae.refl _ _),rfl⟩ | exact⟨LH.bp (ae.alloc _ _),rfl⟩
       simp only[af];apply aU 6 _ rfl
       ·intro W vals hW ag
        clear ag;have hC:=hW.c;refine⟨?_⟩;simp only[fill];go_simp
        first | exact⟨LH.bp (ae.refl _ _),rfl⟩ | exact⟨LH.bp (ae.alloc _ _),rfl⟩
       simp only[af];apply aU 7 _ rfl
       ·intro W vals hW ag
        clear ag;have hC:=hW.c;refine⟨?_⟩;simp only[fill];go_simp
        first | exact⟨LH.bp (ae.refl _ _),rfl⟩ | exact⟨LH.bp (ae.alloc _ _),rfl⟩
       simp only[af];refine bZ 8 (λv W' =>∃sw sc sf,v=eO {p with k:=0} sw sc sf/\jz W' p sw sc sf/\Rd W' base r t) rfl (λW vals hW ag φ' hφ=> ?_) ?_
       ·have hC:=hW.c
        have hr:Rd W base r R:=(hW.a ⟨8, [0,1,2,3,4,5,6,7], []⟩ (by simp) (.inl rfl)).1 gH.o;clear ag;refine⟨?_⟩;rw[aE (by kernel_rfl),nZ i5 c5 #[.agg #[.pointer (some ⟨r,0,none⟩)],.int .i64 (f:Int)] rfl wM.o.r5 (by kernel_rfl)];refine dA LH hφ ((wM.o.read W base r f R (MK W hC) hr (by have:=oe.o;omega) HF.o.2).mono ?_);rintro e w9 ⟨kD,h9⟩;rw[qi.o]at h9;simp only at h9;obtain⟨sw,sc,sf,e1,e2,e3⟩:=h9;exact⟨_,e1,⟨kD,λx hx hne=>by simp at hx;subst hx;exact absurd rfl hne⟩,sw,sc,sf,rfl,e2,e3⟩
       simp only[af];refine eJ (λW9 vals hW ag=> ?_);simp only[df]at ag
       try simp only[ai]at ag
       simp only[fill,Act.put,bo,bn,bh];obtain⟨W1,q0,q1,sw,sc,sf,hv,hpl,LI⟩:=ag;obtain⟨rx,Od⟩:=LI.row;have G5:=(q1.a ⟨8, [0,1,2,3,4,5,6,7], []⟩ (by simp) (.inl rfl)).2 LI;have G7:=hpl.OG Od q1.c;obtain⟨A1,d1,A2,d2,A3,d3,rfl,rfl,rfl⟩:=hpl.slices;have FD :ae Wl W9 [r]:=hW;have jZ:=zh (ST.o.IY FD JQ);have IE:=zh G7;have IA:=zh G5;have MA:=zh (IB.o.keep FD (by have:=xg.o.2.2.1;simp;omega));have OU:=zh (RI.o.keep FD (by have:=xg.o.1.2;simp;omega));have MP:=zh (MK W9 FD);have F3:=zh (show∀W',ae W9 W' [B]->Sh W' (kk:Int).toNat (.agg #[.func (.func i1) #[] c1,.func (.func i2) #[] c2,fv,wv,.func (.func i5) #[] c5])from λW' hk=>TM.o.tY (λb' t' cs' ht hr=>(hr.keeps MP.o).keep hk (λhm=>by rw[rD]at hm;subst hm;exact Row.fI jZ.o.r1 (hr.keeps MP.o) ht rfl)));rw[hv];clear hv hpl LI G5 G7 q0 q1 Od hW FD LH MF MI MX MK;refine wpList_store_row rfl (.tmp 2) (.tmp 66) 29 rfl B (uF 0 p A1 d1 A2 d2 A3 d3) si jZ.o.r1 (by kernel_rfl) rfl (by simp[Value.oneCell']) rfl rfl ?_;intro v7 r7 k7;have Hd:B≠r/\B < r/\B≠b7/\B≠bi:=⟨by omega,by omega,by have:=Kj.o;omega,by have:=xg.o.1.2;omega⟩;have pQ:=zh (jZ.o.put k7 r7 rfl);have tQ:=zh (IE.o.far (.inr trivial) jZ.o.r1 k7);have Iz:=zh (IA.o.keep k7 (by have:=xg.o.1.1;have:=Ew.o;simp;omega));have O8:=zh (MA.o.keep k7 (by have:=Hd.2.2.1;simp;omega));have OT:=zh (OU.o.keep k7 (by have:=Hd.2.2.2;simp;omega));have R9:=zh (show ae w v7 []from pQ.o.k);have iN:=zh k7;clear r7 k7 jZ IE IA MA OU;simp only[Act.put];have x0:=pQ.o.r1.cell 0;have f0:=pQ.o.r1.frozen 0;simp only[cg,bU]at x0
       go_upto_region 12 with fail
       obtain⟨v8,Bq⟩:∃v8,v7.setCell ⟨B,0,none⟩ (.int .i64 (kk:Nat))=v8:=⟨_,rfl⟩;have k8:ae v7 v8 [B]:=by rw[<-Bq];exact ae.setCell _ _ _
       have r8:Row v8 B 29 (uF (kk:Nat) p A1 d1 A2 d2 A3 d3):=by rw[<-Bq];exact pQ.o.r1.store 0 _
       rw[Bq];have eZ:=zh (pQ.o.put k8 r8 rfl);have mH:=zh (tQ.o.far (.inr trivial) pQ.o.r1 k8);have pR:=zh (Iz.o.keep k8 (by have:=xg.o.1.1;have:=Ew.o;simp;omega));have DS:=zh (O8.o.keep k8 (by have:=Hd.2.2.1;simp;omega));have Kg:=zh (OT.o.keep k8 (by have:=Hd.2.2.2;simp;omega));have wD:=zh (r9 (bW.2 Et.o) qi.o).1;have HQ:=zh (show(kk:Int)=3->0<=p.q/\p.q<=3 from λe=>KB (f:=f) (l:=R) (t:=t) (by have:=qi.o;rw[e]at this;exact this));have G3:=F3.o v8 (iN.o.trans k8 (λ_ h _=>h));obtain⟨j1,e1,j2,e2,gv,hv',j5,e5,hX,K8⟩:=NK Et.o G3;injection hX with hX
       simp at hX;obtain⟨⟨rfl,rfl⟩,⟨rfl,rfl⟩,rfl,rfl,⟨rfl,rfl⟩⟩:=hX;have MN:=zh K8;clear G3 K8 k8 r8 Bq x0 f0 pQ tQ Iz O8 OT R9 Hd;obtain⟨G,hG⟩:∃G,kM p=G:=⟨_,rfl⟩;have HG:=zh hG;clear hG
       rcases MN.o.fl with⟨e1,e2⟩ | ⟨i7,g7,e1,QV,KI⟩
       ·subst e1
        have Ko:=zh (show G=0 from HG.o.symm.trans (e2 p wD.o));clear e2;refine cV ?_;refine aA (.pointer (some ⟨b7,2,none⟩)) rfl (by kernel_rfl) ?_;refine bO 52 (.tmp 69) ⟨b7,2,none⟩ .nilFunc rfl rfl (by kernel_rfl) (λ_=>by kernel_rfl) ((DS.o.cell 2).trans (by kernel_rfl)) ?_;refine aA (.bool false) rfl (by kernel_rfl) ?_;simp only[Act.put,bo,bn,bh]
        go_upto_region 14 with fail
        have rc:=Kg.o.cell 0;simp only[cg,bU]at rc;obtain⟨z1,hz1⟩:∃z1,((t.length:Int)==0)=z1:=⟨_,rfl⟩
        cases z1 with
        | false=>
         have gZ:=zh (show∀p',¬fc (x::y::l) p' from λp' h=>by
          rw[wL.o]at h;obtain⟨s',h1,_,_,_,h5,h6,h7⟩:=bP h;rw[lM.o]at h1;injection h1 with h1;injection h1 with h1;injection h1 with e1 e2
          subst e2;rw[jB.o.1,iz.o,HF.o.1,qi.o]at h7;injection h7 with h7
          injection h7 with h8 h9
          rw[h9]at hz1
          cases hz1)
         go_wp2_with fail
         refine(dm _ base r t pR.o).mono ?_;rintro e w' ⟨rfl,rfl⟩
         go_wp2_with (go_at_call 30;refine(bK _).mono ?_;rintro e w' ⟨rfl,rfl⟩)
         exact eB _ _ B eZ.o gZ.o rfl rfl
        | true=>
         have Mv:=zh (show t= []from by
          have:(t.length:Int)=0:=by simpa using hz1
          exact List.length_eq_zero_iff.1 (by omega))
         have hx:=Ms.o _ eZ.o.k;obtain⟨z2,hz2⟩:∃z2,(((0):Int)==(f:Int))=z2:=⟨_,rfl⟩
         cases z2 with
         | false=>
          have gZ:=zh (show∀p',¬fc (x::y::l) p' from λp' h=>by
           rw[wL.o]at h;obtain⟨s',h1,_,_,_,h5,h6,h7⟩:=bP h;rw[lM.o]at h1;injection h1 with h1;injection h1 with h1;injection h1 with e1 e2
           subst e2;rw[jB.o.1,iz.o,HF.o.1,qi.o]at h7;injection h7 with h7
           injection h7 with h8 h9
           subst h8;rw[HG.o,HF.o.1]at h6
           first | (have h0:=Ko.o;rw[h0]at h6;rw[<-h6]at hz2;simp at hz2) | (rw[h6]at hz2;simp at hz2))
          go_wp2_with fail
          refine(dm _ base r t pR.o).mono ?_;rintro e w' ⟨rfl,rfl⟩
          go_wp2_with (go_at_call 30;refine(bK _).mono ?_;rintro e w' ⟨rfl,rfl⟩)
          exact eB _ _ B eZ.o gZ.o rfl rfl
         | true=>
          have MS:=zh (show kM p=f by
           have:((0):Int)=(f:Int):=by simpa using hz2
           rw[HG.o]
           first | (have h0:=Ko.o;omega) | omega)
          have zm:=jW p (.slice A1 p.wants.length d1) (.slice A2 p.aF.length d2) (.slice A3 p.fs.length d3) _ mH.o.g (o6 (bW.2 Et.o) oe.o.2 qi.o) (HM.o.keeps eZ.o.k) (by have:=wD.o;omega) (by have:=wD.o;have:=jB.o;omega);unfold eO at zm;rw[wD.o]at zm
          go_wp2_with fail
          refine(dm _ base r t pR.o).mono ?_;rintro e w' ⟨rfl,rfl⟩
          go_wp2_with (refine jg (by kernel_rfl) 29 (.tmp 2) rfl B 0 (by kernel_rfl) (FT (kk:Nat) p A1 d1 A2 d2 A3 d3) _ (aD eZ.o.r1) underlying29 rfl (by kernel_rfl) ?_;refine Hid.o ?_)
          refine zh ?_;refine kH 13 #[.agg (uF (kk:Nat) p A1 d1 A2 d2 A3 d3)] (by kernel_rfl) (by kernel_rfl) (zm.mono ?_);rintro e w9 ⟨rfl,kD⟩;refine .inl ⟨_,rfl, ?_⟩;replace eZ:=zh (eZ.o.go kD);replace mH:=zh (mH.o.keeps kD);clear zm kD
          cases hok:fD p with
          | false=>
           rw[qc hok];have gZ:=zh (show∀p',¬fc (x::y::l) p' from λp' h=>by
            have hp:=h.1;rw[wL.o]at h;obtain⟨s',h1,_,_,_,h5,h6,h7⟩:=bP h;rw[lM.o]at h1;injection h1 with h1;injection h1 with h1;injection h1 with e1 e2
            subst e2;rw[jB.o.1,iz.o,HF.o.1,qi.o]at h7;injection h7 with h7
            injection h7 with h8 h9
            rw[<-h8,hok]at hp
            cases hp)
           clear hok
           iterate 2
            refine gr (.bool false) (by kernel_rfl) (by kernel_rfl) ?_
           simp only[Act.put,bo,bn,bh]
           go_wp2_with (go_at_call 30;refine(bK _).mono ?_;rintro e w' ⟨rfl,rfl⟩)
           exact eB _ _ B eZ.o gZ.o rfl rfl
          | true=>
           rw[pM hok];have DX:=zh (show fc (x::y::l) p from by
            rw[wL.o];exact r_ lM.o FP.o (by rw[jB.o.1];exact bW.2 Et.o) (by rw[jB.o.1,iz.o,HF.o.1];exact qi.o) Mv.o (by rw[HF.o.1];exact MS.o) hok)
           clear hok
           iterate 2
            refine gr (.bool true) (by kernel_rfl) (by kernel_rfl) ?_
           simp only[Act.put,bo,bn,bh]
           go_upto_region 15 with(go_at_call 30;refine(cz _).mono ?_;rintro e w' ⟨rfl,rfl⟩)
           refine cV ?_;refine wpList_load_mid rfl 29 (.tmp 2) rfl B 0 (by kernel_rfl) (FT (kk:Nat) p A1 d1 A2 d2 A3 d3) _ (aD eZ.o.r1) underlying29 rfl (by kernel_rfl) ?_;refine wpList_store_row rfl (.tmp 2) (.tmp 95) 29 rfl B (uF (kk:Nat) p A1 d1 A2 d2 A3 d3) (uF (kk:Nat) p A1 d1 A2 d2 A3 d3) eZ.o.r1 (by kernel_rfl) rfl (by simp[Value.oneCell']) rfl rfl ?_;intro va ra ka;have pQ:=zh (eZ.o.put ka ra rfl);have tQ:=zh (mH.o.far (.inr trivial) eZ.o.r1 ka);clear ra ka;simp only[Act.put,bo,bn,bh];have d3:=pQ.o.r2.cell 0;have g3:=pQ.o.r2.frozen 0;simp only[cg,bU]at d3
           go_wp2_with fail
           obtain⟨La,kb⟩:=pQ.o.err (.int .i64 0);exact uI _ _ B (p:=p) (by unfold eO;rw[wD.o]) La (tQ.o.J6 pQ.o.r2 kb) DX.o rfl rfl
       ·subst e1
        refine cV ?_;refine aA (.pointer (some ⟨b7,2,none⟩)) rfl (by kernel_rfl) ?_;refine bO 52 (.tmp 69) ⟨b7,2,none⟩ (.func (.func i7) #[] g7) rfl rfl (by kernel_rfl) (λ_=>by kernel_rfl) ((DS.o.cell 2).trans (by kernel_rfl)) ?_;refine aA (.bool true) rfl (by kernel_rfl) ?_;simp only[Act.put,bo,bn,bh]
        go_upto_region 13 with fail
        have hfc:=KI p (.slice A1 p.wants.length d1) (.slice A2 p.aF.length d2) (.slice A3 p.fs.length d3) v8 (ae.refl _ _) wD.o HQ.o;unfold eO at hfc;rw[wD.o,HG.o]at hfc;clear KI;refine cV ?_;refine aA (.pointer (some ⟨b7,2,none⟩)) rfl (by kernel_rfl) ?_;refine bO 52 (.tmp 72) ⟨b7,2,none⟩ (.func (.func i7) #[] g7) rfl rfl (by kernel_rfl) (λ_=>by kernel_rfl) ((DS.o.cell 2).trans (by kernel_rfl)) ?_;refine wpList_load_mid rfl 29 (.tmp 2) rfl B 0 (by kernel_rfl) (FT (kk:Nat) p A1 d1 A2 d2 A3 d3) _ (aD eZ.o.r1) underlying29 rfl (by kernel_rfl) ?_;refine kG i7 g7 #[.agg (uF (kk:Nat) p A1 d1 A2 d2 A3 d3)] rfl rfl QV (by kernel_rfl) ?_;refine hfc.mono ?_;rintro e v9 ⟨rfl,kD⟩;refine .inl ⟨_,rfl, ?_⟩;clear hfc;replace eZ:=zh (eZ.o.go kD);replace mH:=zh (mH.o.keeps kD);replace pR:=zh (pR.o.keep kD (by simp));replace Kg:=zh (Kg.o.keeps kD);clear kD;simp only[Act.put,bo,bn,bh]
        go_upto_region 14 with fail
        have rc:=Kg.o.cell 0;simp only[cg,bU]at rc;obtain⟨z1,hz1⟩:∃z1,((t.length:Int)==0)=z1:=⟨_,rfl⟩
        cases z1 with
        | false=>
         have gZ:=zh (show∀p',¬fc (x::y::l) p' from λp' h=>by
          rw[wL.o]at h;obtain⟨s',h1,_,_,_,h5,h6,h7⟩:=bP h;rw[lM.o]at h1;injection h1 with h1;injection h1 with h1;injection h1 with e1 e2
          subst e2;rw[jB.o.1,iz.o,HF.o.1,qi.o]at h7;injection h7 with h7
          injection h7 with h8 h9
          rw[h9]at hz1
          cases hz1)
         go_wp2_with fail
         refine(dm _ base r t pR.o).mono ?_;rintro e w' ⟨rfl,rfl⟩
         go_wp2_with (go_at_call 30;refine(bK _).mono ?_;rintro e w' ⟨rfl,rfl⟩)
         exact eB _ _ B eZ.o gZ.o rfl rfl
        | true=>
         have Mv:=zh (show t= []from by
          have:(t.length:Int)=0:=by simpa using hz1
          exact List.length_eq_zero_iff.1 (by omega))
         have hx:=Ms.o _ eZ.o.k;obtain⟨z2,hz2⟩:∃z2,((((G:Nat)):Int)==(f:Int))=z2:=⟨_,rfl⟩
         cases z2 with
         | false=>
          have gZ:=zh (show∀p',¬fc (x::y::l) p' from λp' h=>by
           rw[wL.o]at h;obtain⟨s',h1,_,_,_,h5,h6,h7⟩:=bP h;rw[lM.o]at h1;injection h1 with h1;injection h1 with h1;injection h1 with e1 e2
           subst e2;rw[jB.o.1,iz.o,HF.o.1,qi.o]at h7;injection h7 with h7
           injection h7 with h8 h9
           subst h8;rw[HG.o,HF.o.1]at h6
           first | (have h0:=Ko.o;rw[h0]at h6;rw[<-h6]at hz2;simp at hz2) | (rw[h6]at hz2;simp at hz2))
          go_wp2_with fail
          refine(dm _ base r t pR.o).mono ?_;rintro e w' ⟨rfl,rfl⟩
          go_wp2_with (go_at_call 30;refine(bK _).mono ?_;rintro e w' ⟨rfl,rfl⟩)
          exact eB _ _ B eZ.o gZ.o rfl rfl
         | true=>
          have MS:=zh (show kM p=f by
           have:(((G:Nat)):Int)=(f:Int):=by simpa using hz2
           rw[HG.o]
           first | (have h0:=Ko.o;omega) | omega)
          have zm:=jW p (.slice A1 p.wants.length d1) (.slice A2 p.aF.length d2) (.slice A3 p.fs.length d3) _ mH.o.g (o6 (bW.2 Et.o) oe.o.2 qi.o) (HM.o.keeps eZ.o.k) (by have:=wD.o;omega) (by have:=wD.o;have:=jB.o;omega);unfold eO at zm;rw[wD.o]at zm
          go_wp2_with fail
          refine(dm _ base r t pR.o).mono ?_;rintro e w' ⟨rfl,rfl⟩
          go_wp2_with (refine jg (by kernel_rfl) 29 (.tmp 2) rfl B 0 (by kernel_rfl) (FT (kk:Nat) p A1 d1 A2 d2 A3 d3) _ (aD eZ.o.r1) underlying29 rfl (by kernel_rfl) ?_;refine Hid.o ?_)
          refine zh ?_;refine kH 13 #[.agg (uF (kk:Nat) p A1 d1 A2 d2 A3 d3)] (by kernel_rfl) (by kernel_rfl) (zm.mono ?_);rintro e w9 ⟨rfl,kD⟩;refine .inl ⟨_,rfl, ?_⟩;replace eZ:=zh (eZ.o.go kD);replace mH:=zh (mH.o.keeps kD);clear zm kD
          cases hok:fD p with
          | false=>
           rw[qc hok];have gZ:=zh (show∀p',¬fc (x::y::l) p' from λp' h=>by
            have hp:=h.1;rw[wL.o]at h;obtain⟨s',h1,_,_,_,h5,h6,h7⟩:=bP h;rw[lM.o]at h1;injection h1 with h1;injection h1 with h1;injection h1 with e1 e2
            subst e2;rw[jB.o.1,iz.o,HF.o.1,qi.o]at h7;injection h7 with h7
            injection h7 with h8 h9
            rw[<-h8,hok]at hp
            cases hp)
           clear hok
           iterate 2
            refine gr (.bool false) (by kernel_rfl) (by kernel_rfl) ?_
           simp only[Act.put,bo,bn,bh]
           go_wp2_with (go_at_call 30;refine(bK _).mono ?_;rintro e w' ⟨rfl,rfl⟩)
           exact eB _ _ B eZ.o gZ.o rfl rfl
          | true=>
           rw[pM hok];have DX:=zh (show fc (x::y::l) p from by
            rw[wL.o];exact r_ lM.o FP.o (by rw[jB.o.1];exact bW.2 Et.o) (by rw[jB.o.1,iz.o,HF.o.1];exact qi.o) Mv.o (by rw[HF.o.1];exact MS.o) hok)
           clear hok
           iterate 2
            refine gr (.bool true) (by kernel_rfl) (by kernel_rfl) ?_
           simp only[Act.put,bo,bn,bh]
           go_upto_region 15 with(go_at_call 30;refine(cz _).mono ?_;rintro e w' ⟨rfl,rfl⟩)
           refine cV ?_;refine wpList_load_mid rfl 29 (.tmp 2) rfl B 0 (by kernel_rfl) (FT (kk:Nat) p A1 d1 A2 d2 A3 d3) _ (aD eZ.o.r1) underlying29 rfl (by kernel_rfl) ?_;refine wpList_store_row rfl (.tmp 2) (.tmp 95) 29 rfl B (uF (kk:Nat) p A1 d1 A2 d2 A3 d3) (uF (kk:Nat) p A1 d1 A2 d2 A3 d3) eZ.o.r1 (by kernel_rfl) rfl (by simp[Value.oneCell']) rfl rfl ?_;intro va ra ka;have pQ:=zh (eZ.o.put ka ra rfl);have tQ:=zh (mH.o.far (.inr trivial) eZ.o.r1 ka);clear ra ka;simp only[Act.put,bo,bn,bh];have d3:=pQ.o.r2.cell 0;have g3:=pQ.o.r2.frozen 0;simp only[cg,bU]at d3
           go_wp2_with fail
           obtain⟨La,kb⟩:=pQ.o.err (.int .i64 0);exact uI _ _ B (p:=p) (by unfold eO;rw[wD.o]) La (tQ.o.J6 pQ.o.r2 kb) DX.o rfl rfl
    ·rw[aE rfl]at hlk
     unfold vu at hlk;have gZ:=zh (show∀p,¬fc (x::y::l) p from λp h=>by
      rw[wL.o]at h;obtain⟨s',_,_,_,_,h5,_⟩:=bP h;rw[jB.o.1]at h5;have:=bW.1 (bF h.1).1;exact hni (by omega))
     clear hsh hni
     go_wp2_with (refine wpList_store_row rfl (.tmp 7) (.tmp 48) 56 rfl w2.heap.size tu tu (Row.new _ _ _) rfl rfl (by simp[Value.oneCell']) rfl rfl ?_;intro w7 r7 k7;refine Hid.o ?_)
     refine zh ?_;replace ST:=zh ((ST.o.go (ae.alloc _ _)).IY k7 ST.o.r2.lt);clear r7 k7 hlk
     go_wp2_with (go_at_call 30;refine(bK _).mono ?_;rintro e w' ⟨rfl,rfl⟩)
     exact eB _ _ B ST.o gZ.o rfl rfl
end Go.Proofs.YtahbikfbjenfpaaGreatDoor
