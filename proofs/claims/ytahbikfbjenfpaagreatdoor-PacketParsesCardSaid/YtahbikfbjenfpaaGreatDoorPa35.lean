/- Package packet: Raw. Package packet: the closure that Parse lays aside. Package packet: how Parse ends. -/
import Derived.Test.YtahbikfbjenfpaaGreatDoorPa34
set_option maxHeartbeats 4000000
set_option maxRecDepth 100000
namespace Go.Proofs.YtahbikfbjenfpaaGreatDoor
open Tryz Go.RowKit Go.Maps

/-- append of a text's bytes, at an operation of a region that draws its order. -/
theorem iS {R:au->au->Prop}{ops:Array Oper}{o:Oper}{a:Act}{w:au}{φ' :Value->au->Prop}(hgd:o.guard=none)(sl x:Operand)
  (ho:o.op= .call {callee:= .builtin .append,args:= #[sl,x],argTypes:= #[32,9]})
  (base:Nat) (v:Value) (l s:aG) (hs:a.eval sl=v) (hown:aS w base v l) (hx:a.eval x=lI s) (hlen:l.length+s.length<=140737488351232) (hbase:base<=w.heap.size)
  (h:∀v' w',aS w' base v' (l++s)->ae w w' v.ownBlock.toList->R w w' /\φ' v' w'):fH prog R ops a o φ' w:=by
 obtain⟨i0,hi,hz0,hz1,hz2⟩:=info_parts lB;refine⟨?_⟩;have hw:Region.wanted o (yielded ops a.tmps)=true:=by simp[Region.wanted,hgd]
 rw[aE hw];obtain⟨v',w',hrun,h2,h3,_⟩:=Lib.run_append_own_string (P:=prog) w base 32 9 o.type 5 i0 fF kO hi hz0 hz1 hz2 v l.length (l.map bq) hown ⟨s.toArray⟩ (by rw[jT];simp[maxLen];omega) (by rw[jT];omega) hbase;unfold execOp;simp only[ho,resolve,invoke,builtin,fo,gq,fk,xH,eu,fU,hs,hx,lI,hrun];refine h v' w' ?_ (ae.fY h3);unfold aS;rw[jT,rL]at h2;rw[bI,List.map_append];exact h2
section
variable {P:Program} {Q:Exit->Act->au->Prop} {ops:Array Oper} {o:Oper} {rest:List Oper} {a:Act} {w:au}
theorem aA (v:Value)(hg:o.guard=none)(h:(execOp a.eval o).run P w= .ok (.value v) w)(hk:wpList P ops Q rest (a.put o.dst v) w):wpList P ops Q (o::rest) a w:=
 tV hg λK hK=>by unfold Oper.wp;rw[h];exact hK _ _ hk
theorem bO (t:TypeId)(x:Operand)(ad:Addr)(v:Value)(hg:o.guard=none)(ho:o.op= .load t x)(hx:a.eval x= .pointer (some ad))(ht:∀W,(isAgg t).run P W= .ok false W)(hc:w.cell? ad=some v)
  (hk:wpList P ops Q rest (a.put o.dst v) w):wpList P ops Q (o::rest) a w:=
 aA v hg (by
  unfold execOp;simp only[ho,hx,fo,nG ht hc,fk,gq]) hk
end
theorem Lg:∀kn < 15,∀F < 16,bits .or .u8 ((16*kn:Nat):Int) (F:Nat)=((16*kn+F:Nat):Int):=by decide
theorem p5 (w0:au):kE (λW W' =>ae w0 W []->ae w0 W' []):=⟨λh k=>k.ah h,λh k x=>k (h x)⟩
theorem sF:kE (λW W' =>ae W W' []):=⟨λh=>h,λh k=>h.ah k⟩
theorem kJ (w:au)(x:UInt8):aS (w.alloc (.cells #[.int .u8 (x.toNat:Nat)] 5)) w.heap.size (.slice (some ⟨w.heap.size,0,none⟩) 1 1) [x]:=
 ⟨rfl,.inr ⟨w.heap.size,1, #[.int .u8 (x.toNat:Nat)],rfl,bE _,Row.new _ _ _,bE _,by simp[maxLen],rfl,by simp[bq]⟩⟩
def iT (w:au)(p:Pk)(e:Ending)(w' :au):Prop:=
 if fD p=true then∃v,e= .returned (.tuple #[v,.int .i64 0])/\aS w' w.heap.size v (gu p)/\ae w w' []else e= .returned (.tuple #[.slice none 0 0,.int .i64 2])/\ae w w' []
theorem xV (p:Pk)(sw sc sf:Value)(w:au)(hl:fR w p sw sc sf)(hs:rl p)(hm:lG w)(hk1: -9223372036854775808<=p.k)(hk2:p.k<=9223372036854775807):
  Calls prog 11 #[eO p sw sc sf] w (iT w p):=by
 have Py:=zh (show∀W,ae w W []->Calls prog 13 #[eO p sw sc sf] W λe w' =>e= .returned (.int .i64 (xe p))/\ae W w' []from λW hW=>jW p sw sc sf W (hl.keeps hW) hs (hm.keeps hW) hk1 hk2)
 by_cases ho:fD p=true
 case neg=>
  rw[qc (by simpa using ho)]at Py;have yt:=zh (show∀e w',e= .returned (.tuple #[.slice none 0 0,.int .i64 2])->ae w w' []->iT w p e w' from λe w' h1 h2=>by unfold iT;rw[aj ho];exact⟨h1,h2⟩)
  generalize iT w p=PO at yt ⊢
  clear ho hl hs hm hk1 hk2;obtain⟨k,dup,ret,q,t,b,id,c,cl,keep,hw,wt,wb,wq,wr,hu,hp,u,pw,pr,code,wants,aF,fs⟩:=p;obtain⟨W0,aV⟩:∃W,(w).alloc (.cells (zP k dup ret q t b id c cl keep hw wt wb wq wr hu hp u pw pr code sw sc sf) 29)=W:=⟨_,rfl⟩;have k0:ae (w) W0 []:=by rw[<-aV];exact ae.alloc _ _
  have r0:Row W0 (w).heap.size 29 (zP k dup ret q t b id c cl keep hw wt wb wq wr hu hp u pw pr code sw sc sf):=by rw[<-aV];exact Row.new _ _ _
  have HP:=zh r0;have HK:=zh k0;clear k0 r0
  go_enter func11,ntmps11
  go_upto_region 1 with fail
  clear aV;refine av ax _ 2 rfl (by kernel_rfl) (by kernel_rfl) (λ_=>ae.refl _ _) (λ_ _ _ h k=>h.trans k (by simp)) ?_;simp only[dc,dg,dF,dK];refine lw 29 (.tmp 1) (w.heap.size) ((zL k dup ret q t b id c cl keep hw wt wb wq wr hu hp u pw pr code sw sc sf)) underlying29 (λW hW=>aD (HP.o.keeps hW)) ?_;refine aT 13 (#[.agg (zP k dup ret q t b id c cl keep hw wt wb wq wr hu hp u pw pr code sw sc sf)]) (.int .i64 2) (λ_=>by kernel_rfl) (λ_ _=>by kernel_rfl) (λW hW=>by have hh:=Py.o W (HK.o.ah hW);exact hh) ?_;refine aq (λW vals hW ag=> ?_);simp only[af,aw]at ag
  try simp only[ai]at ag
  simp only[af,fill,Act.put,bo,bn,bh];clear ag;have lN:=zh (HK.o.ah hW);clear hW
  go_wp2_with fail
  exact yt.o _ _ rfl lN.o
 case pos=>
  rw[pM ho]at Py;have hin:1<=p.k/\p.k<=14:=bW.1 (bF ho).1;have Km:=zh (λ(W:au) (b:Nat) (h:sP W b)=>(show∃v,Sh W p.k.toNat v/\(Instr.lookup 57 (.map (some b)) (.int .i64 p.k) false).run prog W= .ok v W from by
   rcases h.look p.k hk1 hk2 false with⟨_,_,v,h1,h2⟩ | ⟨h1,_⟩
   ·exact⟨v,h1,h2⟩
   ·exact absurd hin h1))
  have I4:=zh (show∀w9 v,Sh w9 p.k.toNat v->∃i1 c1 i2 c2 fv wv i5 c5,v= .agg #[.func (.func i1) #[] c1,.func (.func i2) #[] c2,fv,wv,.func (.func i5) #[] c5]/\Cd w9 p.k i1 c1 i2 c2 fv wv i5 c5 from λ_ _ h=>NK hin h);obtain⟨F,hF⟩:∃F,kM p=F:=⟨_,rfl⟩;obtain⟨WB,PZ⟩:∃WB,lK p=WB:=⟨_,rfl⟩;have HF:=zh (show F < 16 from hF▸C8 ho);have hq:p.k=3->0<=p.q/\p.q<=3:=λe=>by
   have:=(jN e (bF ho).2.1);have:=this.2.2.1;omega
  have Pt:=zh (show∀w9 i1 c1 i2 c2 fv wv i5 c5,Cd w9 p.k i1 c1 i2 c2 fv wv i5 c5->(fv= .nilFunc/\F=0)\/(∃i c,fv= .func (.func i) #[] c/\Enters i/\∀W,ae w9 W []->Calls prog i (#[eO p sw sc sf]++c) W λe w' =>e= .returned (.int .i64 (F:Nat))/\ae W w' [])from by
   intro w9 i1 c1 i2 c2 fv wv i5 c5 K;rw[<-hF]
   rcases K.fl with⟨e,h⟩ | ⟨i,c,e,h1,h2⟩
   ·exact .inl ⟨e,h p rfl⟩
   ·exact .inr ⟨i,c,e,h1,λW hW=>h2 p sw sc sf W hW rfl hq⟩)
  have KY:=zh (show∀w9 i1 c1 i2 c2 fv wv i5 c5,Cd w9 p.k i1 c1 i2 c2 fv wv i5 c5->(wv= .nilFunc/\WB= [])\/(∃i c,wv= .func (.func i) #[] c/\Enters i/\∀w0 W r,ae w9 W []->ae w w0 []->iM w0 W r []->Calls prog i (#[.pointer (some ⟨r,0,none⟩),eO p sw sc sf]++c) W (lE w0 W r WB))from by
   intro w9 i1 c1 i2 c2 fv wv i5 c5 K;rw[<-PZ]
   rcases K.wr with⟨e,h⟩ | ⟨i,c,e,h1,h2⟩
   ·exact .inl ⟨e,h p rfl⟩
   ·exact .inr ⟨i,c,e,h1,λw0 W r hW h0 hr=>h2 p sw sc sf w0 W r hW rfl ho (hl.keeps h0) hr⟩)
  have lM:=zh (show(WB++p.b).length<=5000 from by rw[<-PZ,<-xT ho];exact qU ho);obtain⟨kn,Ds⟩:∃kn,p.k.toNat=kn:=⟨_,rfl⟩;have Kn:=zh (show p.k=(kn:Int)/\1<=kn/\kn<=14 by omega);have yt:=zh (show∀e w' v,e= .returned (.tuple #[v,.int .i64 0])->aS w' w.heap.size v ([jE (16*kn+F)]++eF (WB++p.b).length++(WB++p.b))->ae w w' []->iT w p e w' from λe w' v h1 h2 h3=>by
   unfold iT;rw[aE ho];refine⟨v,h1, ?_,h3⟩;have:gu p= [jE (16*kn+F)]++eF (WB++p.b).length++(WB++p.b):=by
    unfold gu;rw[xT ho,PZ,hF,Ds];simp
   rw[this];exact h2)
  generalize iT w p=PO at yt ⊢
  rw[Ds]at Km I4;clear ho hl hs hm hk1 hk2 hin hF PZ hq Ds;obtain⟨k,dup,ret,q,t,b,id,c,cl,keep,hw,wt,wb,wq,wr,hu,hp,u,pw,pr,code,wants,aF,fs⟩:=p;simp only at I4 Pt KY lM Kn yt;obtain⟨W0,aV⟩:∃W,(w).alloc (.cells (zP k dup ret q t b id c cl keep hw wt wb wq wr hu hp u pw pr code sw sc sf) 29)=W:=⟨_,rfl⟩;have k0:ae (w) W0 []:=by rw[<-aV];exact ae.alloc _ _
  have r0:Row W0 (w).heap.size 29 (zP k dup ret q t b id c cl keep hw wt wb wq wr hu hp u pw pr code sw sc sf):=by rw[<-aV];exact Row.new _ _ _
  have HP:=zh r0;have HK:=zh k0;clear k0 r0
  go_enter func11,ntmps11
  go_upto_region 1 with fail
  clear aV;refine av ax _ 2 rfl (by kernel_rfl) (by kernel_rfl) (λ_=>ae.refl _ _) (λ_ _ _ h k=>h.trans k (by simp)) ?_;simp only[dc,dg,dF,dK];refine lw 29 (.tmp 1) (w.heap.size) ((zL k dup ret q t b id c cl keep hw wt wb wq wr hu hp u pw pr code sw sc sf)) underlying29 (λW hW=>aD (HP.o.keeps hW)) ?_;refine aT 13 (#[.agg (zP k dup ret q t b id c cl keep hw wt wb wq wr hu hp u pw pr code sw sc sf)]) (.int .i64 0) (λ_=>by kernel_rfl) (λ_ _=>by kernel_rfl) (λW hW=>by have hh:=Py.o W (HK.o.ah hW);exact hh) ?_;refine aq (λW vals hW ag=> ?_);simp only[af,aw]at ag
  try simp only[ai]at ag
  simp only[af,fill,Act.put,bo,bn,bh];clear ag;have lN:=zh (HK.o.ah hW);have R5:=zh (HP.o.keeps hW);clear hW
  go_upto_region 4 with fail
  obtain⟨WR,UG⟩:∃WR,WR=W:=⟨_,rfl⟩;subst UG;have LH:dI [⟨5, [], []⟩] (jy WR.heap.size) Lb:=yC;refine bS [⟨5, [], []⟩] (jy WR.heap.size) (Lb) _ 6 LH (by kernel_rfl) rfl (by kernel_rfl) ?_;simp only[dc,dg,dF,dK];refine bZ 0 (λv W' =>∃b,v= .map (some b)/\sP W' b) rfl (λW vals hW ag φ' hφ=> ?_) ?_
  ·have hC:=hW.c
   simp only[aR]at ag
   try simp only[ai]at ag
   clear ag;refine⟨?_⟩;simp only[fill];go_simp;exact dX LH hφ ((kK W).mono (by rintro e w2 ⟨b,rfl,hb,hk⟩;exact⟨_,rfl,hk,b,rfl,hb⟩))
  simp only[af];apply aU 1 _ rfl
  ·intro W vals hW ag
   clear ag;have hC:=hW.c;refine⟨?_⟩;simp only[fill];go_simp
   first | exact⟨LH.bp (ae.refl _ _),rfl⟩ | exact⟨LH.bp (ae.alloc _ _),rfl⟩
  simp only[af];apply aU 2 _ rfl
  ·intro W vals hW ag
   have hC:=hW.c;simp only[aR]at ag
   try simp only[ai]at ag
   clear ag;have m0:=(hC.rows _ _ _ (.inl (by decide)) R5.o).cell 0;simp only[cg,bU]at m0;refine⟨?_⟩;simp only[fill];go_simp
   first | exact⟨LH.bp (ae.refl _ _),rfl⟩ | exact⟨LH.bp (ae.alloc _ _),rfl⟩
  simp only[af];refine bZ 3 (λu W' =>Sh W' kn u) rfl (λW vals hW ag φ' hφ=> ?_) ?_
  ·have hC:=hW.c
   simp only[aR]at ag
   try simp only[ai]at ag
   (obtain⟨W1,q0,q1,bb,hv,hb⟩:=ag (by decide);obtain⟨v,hsv,hlk⟩:=Km.o W bb (q1.c.maps _ _ hb);clear hb q0 q1)
   refine⟨?_⟩;simp only[fill];go_simp;exact⟨LH.bp (ae.refl _ _),hφ.o _ _ hsv⟩
  simp only[af];refine bZ 4 (λv W' =>∃b,v= .pointer (some ⟨b,0,none⟩)/\WR.heap.size<=b/\Row W' b 56 tu) rfl (λW vals hW ag φ' hφ=> ?_) ?_
  ·have hC:=hW.c
   simp only[aR]at ag
   try simp only[ai]at ag
   clear ag;refine⟨?_⟩;simp only[fill];go_simp;exact⟨LH.bp (ae.alloc _ _),hφ.o _ _ ⟨_,rfl,hC.size,Row.new _ _ _⟩⟩
  simp only[af];refine il 5 [5,19] (λrd _ W' =>∃B X,rd= [.pointer (some ⟨B,0,none⟩),.agg X]/\WR.heap.size<=B/\Row W' B 56 X/\Sh W' kn (.agg X)) rfl (by kernel_rfl) (λW vals hW ag φ' hφ=> ?_) ?_
  ·simp only[aR]at ag
   try simp only[ai]at ag
   obtain⟨W1,q0,q1,B,hv,hB,hrow⟩:=ag.1 (by decide);obtain⟨W2,p0,p1,hsv⟩:=ag.2.1 (by decide);have hsv:=p1.c.sh hsv;obtain⟨i1,c1,i2,c2,fv,wv,i5,c5,Dn,K⟩:=I4.o _ _ hsv;have hone:(#[.func (.func i1) #[] c1,.func (.func i2) #[] c2,fv,wv,.func (.func i5) #[] c5]:Array Value).all (·.oneCell')=true:=by
    rcases K.fl with⟨e,_⟩ | ⟨_,_,e,_⟩ <;> rcases K.wr with⟨e',_⟩ | ⟨_,_,e',_⟩ <;> (subst e e';simp[Value.oneCell'])
   refine nV (x:= .tmp 5) (y:= .tmp 19) (B:=B) (X:= #[.func (.func i1) #[] c1,.func (.func i2) #[] c2,fv,wv,.func (.func i5) #[] c5]) (by kernel_rfl) rfl ((show _=vals 5 by kernel_rfl).trans hv) ((show _=vals 19 by kernel_rfl).trans Dn) rfl hone hB (q1.a ⟨5, [], []⟩ (by simp) (.inr (.inr (.inl rfl))) _ hrow) (λw' h=>⟨h,λx hx hne=>by simp at hx;subst hx;exact absurd rfl hne⟩) (λw' hrel G4=>hφ.o _ _ ⟨B,_,by rw[eu,eu,fU,hv,Dn],hB,G4, ?_⟩);rw[<-Dn];exact hrel.sh hsv
  simp only[af];refine eJ (λW9 vals hW ag=> ?_);simp only[df]at ag
  try simp only[ai]at ag
  simp only[fill,Act.put,bo,bn,bh];obtain⟨⟨_,W1,hc0,p1,B3,X,cS,Ru,hrow,G2⟩,hrest⟩:=ag;clear hrest hc0;have hsv:=p1.c.sh G2;clear G2;obtain⟨i1,c1,i2,c2,fv,wv,i5,c5,hX,K⟩:=I4.o _ _ hsv;injection hX with hX
  subst hX;have Ns:=zh (p1.c.rows _ _ _ (.inr (by intro e;cases e)) hrow);have wM:=zh K;have IK:=zh (lN.o.ah (jy.keeps hW));have MD:=zh (R5.o.keeps (jy.keeps hW));injection cS with e1 e2
  injection e2 with e2 e3
  rw[e1,e2];clear p1 hrow hsv hW LH e1 e2 e3 Ru K;have p0:=MD.o.cell 0;simp only[cg,bU]at p0
  go_upto_region 6 with fail
  rw[show k % 256*16 % 256=((16*kn:Nat):Int)from by have:=Kn.o;omega];obtain⟨M,hM⟩:∃M,16*kn=M:=⟨_,rfl⟩;have HM:=zh (show M<=224/\M % 16=0 by have:=Kn.o;omega);have VI:=zh (show bits .or .u8 (M:Int) (F:Int)=((M+F:Nat):Int)by rw[<-hM];exact Lg kn (by have:=Kn.o;omega) F HF.o);rw[hM]at yt ⊢
  clear hM p0;have BU:=zh Ns.o;have xh:=zh MD.o;have ux:=zh IK.o;have jB:=zh (ae.refl W9 []);obtain⟨WC,Hc⟩:∃WC,WC=W9:=⟨_,rfl⟩;subst Hc;clear Ns MD IK HP HK R5 lN Py Km I4
  rcases Pt.o _ _ _ _ _ _ _ _ _ wM.o with⟨rfl,rfl⟩ | ⟨i7,g7,rfl,hr,KI⟩
  ·skip
   refine cV ?_;refine aA (.pointer (some ⟨B3,2,none⟩)) rfl (by kernel_rfl) ?_;refine bO 52 (.tmp 24) ⟨B3,2,none⟩ (.nilFunc) rfl rfl (by kernel_rfl) (λ_=>by kernel_rfl) ((BU.o.cell 2).trans (by kernel_rfl)) ?_;refine aA (.bool false) rfl (by kernel_rfl) ?_;simp only[Act.put,bo,bn,bh];obtain⟨y0,hy0⟩:∃y0,jE (M+0)=y0:=⟨_,rfl⟩;have hY:((M:Nat):Int)=(y0.toNat:Int):=by rw[<-hy0,eP (by have:=HM.o;omega)];simp
   rw[hy0]at yt;rw[hY];clear hy0 hY
   go_upto_region 8 with fail
   go_wp2_with fail
   refine(qG _).mono ?_;rintro e W ⟨rfl,JO,hW⟩;obtain⟨r4,sY⟩:∃r4,WC.heap.size=r4:=⟨_,rfl⟩;have DP:=zh (show iM WC W r4 []from⟨hW,by rw[sY];exact bE _,_,by rw[<-sY];exact JO⟩);rw[sY];obtain⟨WN,LZ⟩:∃WN,WN=WC:=⟨_,rfl⟩;rw[<-LZ]at DP;have zG:=zh (show ae w WN []/\WN.heap.size<=r4 from by rw[LZ];exact⟨ux.o,by rw[sY];exact bE _⟩);clear JO sY LZ;have ag:=True.intro;have BU:=zh (BU.o.keeps hW);have xh:=zh (xh.o.keeps hW);have ux:=zh (ux.o.ah hW);have jB:=zh (jB.o.ah hW);obtain⟨WC,Hc⟩:∃WC,WC=W:=⟨_,rfl⟩;subst Hc;clear ag hW
   go_upto_region 9 with fail
   rcases KY.o _ _ _ _ _ _ _ _ _ wM.o with⟨rfl,rfl⟩ | ⟨i6,g6,rfl,hr,hcw⟩
   ·skip
    refine cV ?_;refine aA (.pointer (some ⟨B3,3,none⟩)) rfl (by kernel_rfl) ?_;refine bO 53 (.tmp 35) ⟨B3,3,none⟩ (.nilFunc) rfl rfl (by kernel_rfl) (λ_=>by kernel_rfl) ((BU.o.cell 3).trans (by kernel_rfl)) ?_;refine aA (.bool false) rfl (by kernel_rfl) ?_;simp only[Act.put,bo,bn,bh]
    go_upto_region 11 with fail
    obtain⟨BD,zq⟩:∃BD,([]:aG)++b=BD:=⟨_,rfl⟩;have zH:=zh (And.intro zq (show(([]:aG)).length<=5000/\b.length<=5000 by have:=lM.o;rw[bI]at this;first | omega | (simp only[dR]at this ⊢;omega)));have oI:=zh (show BD.length<=5000 by rw[<-zq];exact lM.o);rw[zq]at yt;clear zq lM;have LH:=dI.one (Ws:= [⟨4, [0,1,2,3], []⟩]) (i:=4) (p5 w) sF;refine bS [⟨4, [0,1,2,3], []⟩] (λW W' =>ae w W []->ae w W' []) (qV 4 (λW W' =>ae W W' [])) _ 5 LH (by kernel_rfl) rfl (by kernel_rfl) ?_;simp only[dc,dg,dF,dK];apply aU 0 _ rfl
    ·intro W vals hW ag
     clear ag;have hC:=hW.c;refine⟨?_⟩;simp only[fill];go_simp
     first | exact⟨LH.bp (ae.refl _ _),rfl⟩ | exact⟨LH.bp (ae.alloc _ _),rfl⟩
    simp only[af];refine bZ 1 (λv W' =>aS W' w.heap.size v (([]:aG))) rfl (λW vals hW ag φ' hφ=> ?_) ?_
    ·have hC:=hW.c
     simp only[aR]at ag
     try simp only[ai]at ag
     (have hkp:=j0.one hW (.inr (show(1:Nat)∈ [0,1,2,3]by decide));have FU:=DP.o.keeps hkp;obtain⟨vw,LG⟩:=FU.v;clear ag)
     refine⟨?_⟩;simp only[fill];go_simp;exact dX LH hφ ((lX _ _ _ _ _ LG (by have:=zH.o.2.1;omega)).mono (by rintro e w2 ⟨v',rfl,ho,hk⟩;exact⟨v',rfl,hk,bR ho (by have:=(ux.o.ah hkp).size;omega)⟩))
    simp only[af];apply aU 2 _ rfl
    ·intro W vals hW ag
     clear ag;have hC:=hW.c;refine⟨?_⟩;simp only[fill];go_simp
     first | exact⟨LH.bp (ae.refl _ _),rfl⟩ | exact⟨LH.bp (ae.alloc _ _),rfl⟩
    simp only[af];apply aU 3 _ rfl
    ·intro W vals hW ag
     have hC:=hW.c;simp only[aR]at ag
     try simp only[ai]at ag
     have m5:=((xh.o.keeps (j0.one hW (.inr (show(3:Nat)∈ [0,1,2,3]by decide)))).cell 5);simp only[cg,bU,fe]at m5;clear ag;refine⟨?_⟩;simp only[fill];go_simp
     first | exact⟨LH.bp (ae.refl _ _),rfl⟩ | exact⟨LH.bp (ae.alloc _ _),rfl⟩
    simp only[af];refine bZ 4 (λv W' =>∃A c,v= .slice A BD.length c/\aS W' w.heap.size v BD) rfl (λW vals hW ag φ' hφ=> ?_) ?_
    ·simp only[aR]at ag
     try simp only[ai]at ag
     obtain⟨W4,a0,a1,how⟩:=ag (by decide);have how:=aM how (B_.one a1 (.inr (.inr (.inl rfl)))) (by simp);refine iS rfl (.tmp 44) (.tmp 46) rfl w.heap.size (vals 44) (([]:aG)) b (show _=vals 44 by kernel_rfl) how (by kernel_rfl) (by have:=zH.o.2;omega) (hW.c ux.o).size (λv' w' ho hk=> ?_);rw[zH.o.1]at ho;obtain⟨A,c,rfl,_,_⟩:=ck ho;exact⟨.one (λhh=>hh.trans hk (λy hy hlt=>by have:=(how.lt y (by simpa using hy)).1;omega)) (λh=>absurd rfl h),hφ.o _ _ ⟨A,c,rfl,ho⟩⟩
    simp only[af];refine eJ (λW9 vals hW ag=> ?_);simp only[df]at ag
    try simp only[ai]at ag
    simp only[fill,Act.put,bo,bn,bh];obtain⟨⟨_,a0,a1,A9,c9,uo,sG⟩,hrest⟩:=ag;have sG:=aM sG (qL.one a1 (.inl rfl)) (by simp);rw[uo]at sG ⊢
    have wE:=zh (And.intro sG (hW ux.o));clear a0 a1 uo sG hrest hW LH ux DP xh zG zH
    go_wp2_with fail
    refine(pZ _ BD.length (by have:=oI.o;omega)).mono ?_;rintro e W5 ⟨v5,rfl,nz,iH⟩;obtain⟨N,hN⟩:∃N,eF BD.length=N:=⟨_,rfl⟩;have rq:=zh (show N.length<=8 by rw[<-hN,ed];have:=gP BD.length;omega);rw[hN]at nz yt;obtain⟨A5,c5,rfl,_,_⟩:=ck nz;obtain⟨Wb,fg⟩:∃Wb,W5.alloc (.cells #[.int .u8 (y0.toNat:Nat)] 5)=Wb:=⟨_,rfl⟩;have kb:ae W5 Wb []:=by rw[<-fg];exact ae.alloc _ _
    have rb:aS Wb W5.heap.size (.slice (some ⟨W5.heap.size,0,none⟩) 1 1) [y0]:=by rw[<-fg];exact kJ W5 y0
    have HA:=zh (And.intro (aM wE.o.1 iH (by simp)) (And.intro rb (And.intro (aS.bytes (aM nz kb (by simp)) (by have:=rq.o;omega)) (And.intro (aM (aM wE.o.1 iH (by simp)) kb (by simp)) ((wE.o.2.ah iH).ah kb)))));have hbs:W5.heap.size<=Wb.heap.size:=kb.size;have DQ:=zh (show w.heap.size<=W5.heap.size from(wE.o.2.ah iH).size);clear nz iH kb rb wE hN
    go_wp2_with (at_builtin;refine Hid.o ?_)
    refine zh ?_;refine aI _ rfl (.tmp 55) (.tmp 56) rfl w.heap.size (.slice (some ⟨W5.heap.size,0,none⟩) 1 1) (.slice A5 N.length c5) [y0] N rfl rfl (bR HA.o.2.1 DQ.o) HA.o.2.2.1 (by have:=rq.o;simp;omega) (cH DQ.o hbs) ?_;intro A6 c6 w6 l6 E6 vZ pF ko wh;have HB:=zh (And.intro pF (And.intro (aS.bytes (aM HA.o.2.2.2.1 ko (λg hg hm=>by have:=(dM HA.o.1 g hg).2;simp[Value.ownBlock]at hm;omega)) (by have:=oI.o;omega)) (HA.o.2.2.2.2.trans ko (λy hy hlt=>by have:=DQ.o;simp[Value.ownBlock]at hy;omega))));have jX:w.heap.size<=w6.heap.size:=HB.o.2.2.size;clear pF ko wh hbs fg
    go_wp2_with (at_builtin;refine Hid.o ?_)
    refine zh ?_;refine aI _ rfl (.tmp 57) (.tmp 58) rfl w.heap.size (.slice A6 l6.length c6) (.slice A9 BD.length c9) l6 BD rfl rfl HB.o.1 HB.o.2.1 (by have:=rq.o;have:=oI.o;simp at vZ;omega) jX ?_;intro A7 c7 w7 l7 E7 qq mq kf qu;have iN:=zh (HB.o.2.2.trans kf (λy hy hlt=>by have:=(dM HB.o.1 y (by simpa using hy)).1;omega));have uD:=zh mq;clear mq kf qu jX
    go_wp2_with fail
    refine yt.o _ _ _ rfl ?_ iN.o;rw[<-E6.o,<-E7.o];exact uD.o
   ·have Px:=zh hcw
    clear hcw;refine cV ?_;refine aA (.pointer (some ⟨B3,3,none⟩)) rfl (by kernel_rfl) ?_;refine bO 53 (.tmp 35) ⟨B3,3,none⟩ (.func (.func i6) #[] g6) rfl rfl (by kernel_rfl) (λ_=>by kernel_rfl) ((BU.o.cell 3).trans (by kernel_rfl)) ?_;refine aA (.bool true) rfl (by kernel_rfl) ?_;simp only[Act.put,bo,bn,bh]
    go_upto_region 10 with fail
    refine cV ?_;refine aA (.pointer (some ⟨B3,3,none⟩)) rfl (by kernel_rfl) ?_;refine bO 53 (.tmp 38) ⟨B3,3,none⟩ (.func (.func i6) #[] g6) rfl rfl (by kernel_rfl) (λ_=>by kernel_rfl) ((BU.o.cell 3).trans (by kernel_rfl)) ?_;refine aA (.pointer (some ⟨r4,0,none⟩)) rfl (by kernel_rfl) ?_;refine wpList_load_mid rfl 29 (.tmp 1) rfl w.heap.size 0 (by kernel_rfl) (zL k dup ret q t b id c cl keep hw wt wb wq wr hu hp u pw pr code sw sc sf) _ (aD xh.o) underlying29 rfl (by kernel_rfl) ?_;refine kG i6 g6 #[.pointer (some ⟨r4,0,none⟩),.agg (zP k dup ret q t b id c cl keep hw wt wb wq wr hu hp u pw pr code sw sc sf)] rfl rfl hr (by kernel_rfl) ?_;refine(Px.o WN WC r4 jB.o zG.o.1 DP.o).mono ?_;rintro e W ⟨rfl,ha,hg⟩;refine .inl ⟨_,rfl, ?_⟩;have DP:=zh ha;have xh:=zh (hg _ _ _ xh.o (by decide) (by decide));have ux:=zh (zG.o.1.ah ha.k);clear ha hg hr Px jB BU;obtain⟨WC,Hc⟩:∃WC,WC=W:=⟨_,rfl⟩;subst Hc;simp only[Act.put,bo,bn,bh]
    go_upto_region 11 with fail
    obtain⟨BD,zq⟩:∃BD,WB++b=BD:=⟨_,rfl⟩;have zH:=zh (And.intro zq (show(WB).length<=5000/\b.length<=5000 by have:=lM.o;rw[bI]at this;first | omega | (simp only[dR]at this ⊢;omega)));have oI:=zh (show BD.length<=5000 by rw[<-zq];exact lM.o);rw[zq]at yt;clear zq lM;have LH:=dI.one (Ws:= [⟨4, [0,1,2,3], []⟩]) (i:=4) (p5 w) sF;refine bS [⟨4, [0,1,2,3], []⟩] (λW W' =>ae w W []->ae w W' []) (qV 4 (λW W' =>ae W W' [])) _ 5 LH (by kernel_rfl) rfl (by kernel_rfl) ?_;simp only[dc,dg,dF,dK];apply aU 0 _ rfl
    ·intro W vals hW ag
     clear ag;have hC:=hW.c;refine⟨?_⟩;simp only[fill];go_simp
     first | exact⟨LH.bp (ae.refl _ _),rfl⟩ | exact⟨LH.bp (ae.alloc _ _),rfl⟩
    simp only[af];refine bZ 1 (λv W' =>aS W' w.heap.size v (WB)) rfl (λW vals hW ag φ' hφ=> ?_) ?_
    ·have hC:=hW.c
     simp only[aR]at ag
     try simp only[ai]at ag
     (have hkp:=j0.one hW (.inr (show(1:Nat)∈ [0,1,2,3]by decide));have FU:=DP.o.keeps hkp;obtain⟨vw,LG⟩:=FU.v;clear ag)
     refine⟨?_⟩;simp only[fill];go_simp;exact dX LH hφ ((lX _ _ _ _ _ LG (by have:=zH.o.2.1;omega)).mono (by rintro e w2 ⟨v',rfl,ho,hk⟩;exact⟨v',rfl,hk,bR ho (by have:=(ux.o.ah hkp).size;omega)⟩))
    simp only[af];apply aU 2 _ rfl
    ·intro W vals hW ag
     clear ag;have hC:=hW.c;refine⟨?_⟩;simp only[fill];go_simp
     first | exact⟨LH.bp (ae.refl _ _),rfl⟩ | exact⟨LH.bp (ae.alloc _ _),rfl⟩
    simp only[af];apply aU 3 _ rfl
    ·intro W vals hW ag
     have hC:=hW.c;simp only[aR]at ag
     try simp only[ai]at ag
     have m5:=((xh.o.keeps (j0.one hW (.inr (show(3:Nat)∈ [0,1,2,3]by decide)))).cell 5);simp only[cg,bU,fe]at m5;clear ag;refine⟨?_⟩;simp only[fill];go_simp
     first | exact⟨LH.bp (ae.refl _ _),rfl⟩ | exact⟨LH.bp (ae.alloc _ _),rfl⟩
    simp only[af];refine bZ 4 (λv W' =>∃A c,v= .slice A BD.length c/\aS W' w.heap.size v BD) rfl (λW vals hW ag φ' hφ=> ?_) ?_
    ·simp only[aR]at ag
     try simp only[ai]at ag
     obtain⟨W4,a0,a1,how⟩:=ag (by decide);have how:=aM how (B_.one a1 (.inr (.inr (.inl rfl)))) (by simp);refine iS rfl (.tmp 44) (.tmp 46) rfl w.heap.size (vals 44) (WB) b (show _=vals 44 by kernel_rfl) how (by kernel_rfl) (by have:=zH.o.2;omega) (hW.c ux.o).size (λv' w' ho hk=> ?_);rw[zH.o.1]at ho;obtain⟨A,c,rfl,_,_⟩:=ck ho;exact⟨.one (λhh=>hh.trans hk (λy hy hlt=>by have:=(how.lt y (by simpa using hy)).1;omega)) (λh=>absurd rfl h),hφ.o _ _ ⟨A,c,rfl,ho⟩⟩
    simp only[af];refine eJ (λW9 vals hW ag=> ?_);simp only[df]at ag
    try simp only[ai]at ag
    simp only[fill,Act.put,bo,bn,bh];obtain⟨⟨_,a0,a1,A9,c9,uo,sG⟩,hrest⟩:=ag;have sG:=aM sG (qL.one a1 (.inl rfl)) (by simp);rw[uo]at sG ⊢
    have wE:=zh (And.intro sG (hW ux.o));clear a0 a1 uo sG hrest hW LH ux DP xh zG zH
    go_wp2_with fail
    refine(pZ _ BD.length (by have:=oI.o;omega)).mono ?_;rintro e W5 ⟨v5,rfl,nz,iH⟩;obtain⟨N,hN⟩:∃N,eF BD.length=N:=⟨_,rfl⟩;have rq:=zh (show N.length<=8 by rw[<-hN,ed];have:=gP BD.length;omega);rw[hN]at nz yt;obtain⟨A5,c5,rfl,_,_⟩:=ck nz;obtain⟨Wb,fg⟩:∃Wb,W5.alloc (.cells #[.int .u8 (y0.toNat:Nat)] 5)=Wb:=⟨_,rfl⟩;have kb:ae W5 Wb []:=by rw[<-fg];exact ae.alloc _ _
    have rb:aS Wb W5.heap.size (.slice (some ⟨W5.heap.size,0,none⟩) 1 1) [y0]:=by rw[<-fg];exact kJ W5 y0
    have HA:=zh (And.intro (aM wE.o.1 iH (by simp)) (And.intro rb (And.intro (aS.bytes (aM nz kb (by simp)) (by have:=rq.o;omega)) (And.intro (aM (aM wE.o.1 iH (by simp)) kb (by simp)) ((wE.o.2.ah iH).ah kb)))));have hbs:W5.heap.size<=Wb.heap.size:=kb.size;have DQ:=zh (show w.heap.size<=W5.heap.size from(wE.o.2.ah iH).size);clear nz iH kb rb wE hN
    go_wp2_with (at_builtin;refine Hid.o ?_)
    refine zh ?_;refine aI _ rfl (.tmp 55) (.tmp 56) rfl w.heap.size (.slice (some ⟨W5.heap.size,0,none⟩) 1 1) (.slice A5 N.length c5) [y0] N rfl rfl (bR HA.o.2.1 DQ.o) HA.o.2.2.1 (by have:=rq.o;simp;omega) (cH DQ.o hbs) ?_;intro A6 c6 w6 l6 E6 vZ pF ko wh;have HB:=zh (And.intro pF (And.intro (aS.bytes (aM HA.o.2.2.2.1 ko (λg hg hm=>by have:=(dM HA.o.1 g hg).2;simp[Value.ownBlock]at hm;omega)) (by have:=oI.o;omega)) (HA.o.2.2.2.2.trans ko (λy hy hlt=>by have:=DQ.o;simp[Value.ownBlock]at hy;omega))));have jX:w.heap.size<=w6.heap.size:=HB.o.2.2.size;clear pF ko wh hbs fg
    go_wp2_with (at_builtin;refine Hid.o ?_)
    refine zh ?_;refine aI _ rfl (.tmp 57) (.tmp 58) rfl w.heap.size (.slice A6 l6.length c6) (.slice A9 BD.length c9) l6 BD rfl rfl HB.o.1 HB.o.2.1 (by have:=rq.o;have:=oI.o;simp at vZ;omega) jX ?_;intro A7 c7 w7 l7 E7 qq mq kf qu;have iN:=zh (HB.o.2.2.trans kf (λy hy hlt=>by have:=(dM HB.o.1 y (by simpa using hy)).1;omega));have uD:=zh mq;clear mq kf qu jX
    go_wp2_with fail
    refine yt.o _ _ _ rfl ?_ iN.o;rw[<-E6.o,<-E7.o];exact uD.o
  ·have T7:=zh KI
   clear KI;refine cV ?_;refine aA (.pointer (some ⟨B3,2,none⟩)) rfl (by kernel_rfl) ?_;refine bO 52 (.tmp 24) ⟨B3,2,none⟩ (.func (.func i7) #[] g7) rfl rfl (by kernel_rfl) (λ_=>by kernel_rfl) ((BU.o.cell 2).trans (by kernel_rfl)) ?_;refine aA (.bool true) rfl (by kernel_rfl) ?_;simp only[Act.put,bo,bn,bh]
   go_upto_region 7 with fail
   obtain⟨y0,hy0⟩:∃y0,jE (M+F)=y0:=⟨_,rfl⟩;have Oy:bits .or .u8 (M:Int) (F:Int)=(y0.toNat:Int):=by rw[VI.o,<-hy0,eP (by have:=HM.o;have:=HF.o;omega)]
   have hwf:IntKind.u8.wrap (F:Int)=(F:Int):=IntWalk.u8_in _ ⟨by omega,by have:=HF.o;omega⟩;rw[hy0]at yt;clear hy0;refine av ax _ 7 rfl (by kernel_rfl) (by kernel_rfl) (λ_=>ae.refl _ _) (λ_ _ _ h k=>h.trans k (by simp)) ?_;simp only[dc,dg,dF,dK];refine lq (.int .u8 (M:Nat)) ?_;refine lq (.pointer (some ⟨B3,2,none⟩)) ?_;refine ll 52 (.tmp 28) (⟨B3,2,none⟩) (.func (.func i7) #[] g7) (λW hW=>((BU.o.keeps hW).cell 2).trans (by kernel_rfl)) ?_;refine lw 29 (.tmp 1) (w.heap.size) ((zL k dup ret q t b id c cl keep hw wt wb wq wr hu hp u pw pr code sw sc sf)) underlying29 (λW hW=>aD (xh.o.keeps hW)) ?_;refine pg i7 (g7) (#[.agg (zP k dup ret q t b id c cl keep hw wt wb wq wr hu hp u pw pr code sw sc sf)]) (#[.agg (zP k dup ret q t b id c cl keep hw wt wb wq wr hu hp u pw pr code sw sc sf)]++g7) (.int .i64 (F:Nat)) (by first | rfl | simp) rfl hr (λ_=>by kernel_rfl) (λ_ _=>by kernel_rfl) (λW hW=>by have hh:=T7.o W (jB.o.ah hW);exact hh) ?_;refine aK (.int .u8 (F:Nat)) (λ_=>by kernel_rfl) (λW _=>(show _=Result.ok (Next.value (.int .u8 (IntKind.u8.wrap (F:Int)))) W by kernel_rfl).trans (by rw[hwf])) ?_;refine aK (.int .u8 (y0.toNat:Int)) (λ_=>by kernel_rfl) (λW _=>(show _=Result.ok (Next.value (.int .u8 (bits .or .u8 (M:Int) (F:Int)))) W by kernel_rfl).trans (by rw[Oy])) ?_;refine aq (λW vals hW ag=> ?_);simp only[af,aw]at ag
   try simp only[ai]at ag
   simp only[af,fill,Act.put,bo,bn,bh];clear hr T7 hwf Oy;have BU:=zh (BU.o.keeps hW);have xh:=zh (xh.o.keeps hW);have ux:=zh (ux.o.ah hW);have jB:=zh (jB.o.ah hW);obtain⟨WC,Hc⟩:∃WC,WC=W:=⟨_,rfl⟩;subst Hc;clear ag hW
   go_upto_region 8 with fail
   go_wp2_with fail
   refine(qG _).mono ?_;rintro e W ⟨rfl,JO,hW⟩;obtain⟨r4,sY⟩:∃r4,WC.heap.size=r4:=⟨_,rfl⟩;have DP:=zh (show iM WC W r4 []from⟨hW,by rw[sY];exact bE _,_,by rw[<-sY];exact JO⟩);rw[sY];obtain⟨WN,LZ⟩:∃WN,WN=WC:=⟨_,rfl⟩;rw[<-LZ]at DP;have zG:=zh (show ae w WN []/\WN.heap.size<=r4 from by rw[LZ];exact⟨ux.o,by rw[sY];exact bE _⟩);clear JO sY LZ;have ag:=True.intro;have BU:=zh (BU.o.keeps hW);have xh:=zh (xh.o.keeps hW);have ux:=zh (ux.o.ah hW);have jB:=zh (jB.o.ah hW);obtain⟨WC,Hc⟩:∃WC,WC=W:=⟨_,rfl⟩;subst Hc;clear ag hW
   go_upto_region 9 with fail
   rcases KY.o _ _ _ _ _ _ _ _ _ wM.o with⟨rfl,rfl⟩ | ⟨i6,g6,rfl,hr,hcw⟩
   ·skip
    refine cV ?_;refine aA (.pointer (some ⟨B3,3,none⟩)) rfl (by kernel_rfl) ?_;refine bO 53 (.tmp 35) ⟨B3,3,none⟩ (.nilFunc) rfl rfl (by kernel_rfl) (λ_=>by kernel_rfl) ((BU.o.cell 3).trans (by kernel_rfl)) ?_;refine aA (.bool false) rfl (by kernel_rfl) ?_;simp only[Act.put,bo,bn,bh]
    go_upto_region 11 with fail
    obtain⟨BD,zq⟩:∃BD,([]:aG)++b=BD:=⟨_,rfl⟩;have zH:=zh (And.intro zq (show(([]:aG)).length<=5000/\b.length<=5000 by have:=lM.o;rw[bI]at this;first | omega | (simp only[dR]at this ⊢;omega)));have oI:=zh (show BD.length<=5000 by rw[<-zq];exact lM.o);rw[zq]at yt;clear zq lM;have LH:=dI.one (Ws:= [⟨4, [0,1,2,3], []⟩]) (i:=4) (p5 w) sF;refine bS [⟨4, [0,1,2,3], []⟩] (λW W' =>ae w W []->ae w W' []) (qV 4 (λW W' =>ae W W' [])) _ 5 LH (by kernel_rfl) rfl (by kernel_rfl) ?_;simp only[dc,dg,dF,dK];apply aU 0 _ rfl
    ·intro W vals hW ag
     clear ag;have hC:=hW.c;refine⟨?_⟩;simp only[fill];go_simp
     first | exact⟨LH.bp (ae.refl _ _),rfl⟩ | exact⟨LH.bp (ae.alloc _ _),rfl⟩
    simp only[af];refine bZ 1 (λv W' =>aS W' w.heap.size v (([]:aG))) rfl (λW vals hW ag φ' hφ=> ?_) ?_
    ·have hC:=hW.c
     simp only[aR]at ag
     try simp only[ai]at ag
     (have hkp:=j0.one hW (.inr (show(1:Nat)∈ [0,1,2,3]by decide));have FU:=DP.o.keeps hkp;obtain⟨vw,LG⟩:=FU.v;clear ag)
     refine⟨?_⟩;simp only[fill];go_simp;exact dX LH hφ ((lX _ _ _ _ _ LG (by have:=zH.o.2.1;omega)).mono (by rintro e w2 ⟨v',rfl,ho,hk⟩;exact⟨v',rfl,hk,bR ho (by have:=(ux.o.ah hkp).size;omega)⟩))
    simp only[af];apply aU 2 _ rfl
    ·intro W vals hW ag
     clear ag;have hC:=hW.c;refine⟨?_⟩;simp only[fill];go_simp
     first | exact⟨LH.bp (ae.refl _ _),rfl⟩ | exact⟨LH.bp (ae.alloc _ _),rfl⟩
    simp only[af];apply aU 3 _ rfl
    ·intro W vals hW ag
     have hC:=hW.c;simp only[aR]at ag
     try simp only[ai]at ag
     have m5:=((xh.o.keeps (j0.one hW (.inr (show(3:Nat)∈ [0,1,2,3]by decide)))).cell 5);simp only[cg,bU,fe]at m5;clear ag;refine⟨?_⟩;simp only[fill];go_simp
     first | exact⟨LH.bp (ae.refl _ _),rfl⟩ | exact⟨LH.bp (ae.alloc _ _),rfl⟩
    simp only[af];refine bZ 4 (λv W' =>∃A c,v= .slice A BD.length c/\aS W' w.heap.size v BD) rfl (λW vals hW ag φ' hφ=> ?_) ?_
    ·simp only[aR]at ag
     try simp only[ai]at ag
     obtain⟨W4,a0,a1,how⟩:=ag (by decide);have how:=aM how (B_.one a1 (.inr (.inr (.inl rfl)))) (by simp);refine iS rfl (.tmp 44) (.tmp 46) rfl w.heap.size (vals 44) (([]:aG)) b (show _=vals 44 by kernel_rfl) how (by kernel_rfl) (by have:=zH.o.2;omega) (hW.c ux.o).size (λv' w' ho hk=> ?_);rw[zH.o.1]at ho;obtain⟨A,c,rfl,_,_⟩:=ck ho;exact⟨.one (λhh=>hh.trans hk (λy hy hlt=>by have:=(how.lt y (by simpa using hy)).1;omega)) (λh=>absurd rfl h),hφ.o _ _ ⟨A,c,rfl,ho⟩⟩
    simp only[af];refine eJ (λW9 vals hW ag=> ?_);simp only[df]at ag
    try simp only[ai]at ag
    simp only[fill,Act.put,bo,bn,bh];obtain⟨⟨_,a0,a1,A9,c9,uo,sG⟩,hrest⟩:=ag;have sG:=aM sG (qL.one a1 (.inl rfl)) (by simp);rw[uo]at sG ⊢
    have wE:=zh (And.intro sG (hW ux.o));clear a0 a1 uo sG hrest hW LH ux DP xh zG zH
    go_wp2_with fail
    refine(pZ _ BD.length (by have:=oI.o;omega)).mono ?_;rintro e W5 ⟨v5,rfl,nz,iH⟩;obtain⟨N,hN⟩:∃N,eF BD.length=N:=⟨_,rfl⟩;have rq:=zh (show N.length<=8 by rw[<-hN,ed];have:=gP BD.length;omega);rw[hN]at nz yt;obtain⟨A5,c5,rfl,_,_⟩:=ck nz;obtain⟨Wb,fg⟩:∃Wb,W5.alloc (.cells #[.int .u8 (y0.toNat:Nat)] 5)=Wb:=⟨_,rfl⟩;have kb:ae W5 Wb []:=by rw[<-fg];exact ae.alloc _ _
    have rb:aS Wb W5.heap.size (.slice (some ⟨W5.heap.size,0,none⟩) 1 1) [y0]:=by rw[<-fg];exact kJ W5 y0
    have HA:=zh (And.intro (aM wE.o.1 iH (by simp)) (And.intro rb (And.intro (aS.bytes (aM nz kb (by simp)) (by have:=rq.o;omega)) (And.intro (aM (aM wE.o.1 iH (by simp)) kb (by simp)) ((wE.o.2.ah iH).ah kb)))));have hbs:W5.heap.size<=Wb.heap.size:=kb.size;have DQ:=zh (show w.heap.size<=W5.heap.size from(wE.o.2.ah iH).size);clear nz iH kb rb wE hN
    go_wp2_with (at_builtin;refine Hid.o ?_)
    refine zh ?_;refine aI _ rfl (.tmp 55) (.tmp 56) rfl w.heap.size (.slice (some ⟨W5.heap.size,0,none⟩) 1 1) (.slice A5 N.length c5) [y0] N rfl rfl (bR HA.o.2.1 DQ.o) HA.o.2.2.1 (by have:=rq.o;simp;omega) (cH DQ.o hbs) ?_;intro A6 c6 w6 l6 E6 vZ pF ko wh;have HB:=zh (And.intro pF (And.intro (aS.bytes (aM HA.o.2.2.2.1 ko (λg hg hm=>by have:=(dM HA.o.1 g hg).2;simp[Value.ownBlock]at hm;omega)) (by have:=oI.o;omega)) (HA.o.2.2.2.2.trans ko (λy hy hlt=>by have:=DQ.o;simp[Value.ownBlock]at hy;omega))));have jX:w.heap.size<=w6.heap.size:=HB.o.2.2.size;clear pF ko wh hbs fg
    go_wp2_with (at_builtin;refine Hid.o ?_)
    refine zh ?_;refine aI _ rfl (.tmp 57) (.tmp 58) rfl w.heap.size (.slice A6 l6.length c6) (.slice A9 BD.length c9) l6 BD rfl rfl HB.o.1 HB.o.2.1 (by have:=rq.o;have:=oI.o;simp at vZ;omega) jX ?_;intro A7 c7 w7 l7 E7 qq mq kf qu;have iN:=zh (HB.o.2.2.trans kf (λy hy hlt=>by have:=(dM HB.o.1 y (by simpa using hy)).1;omega));have uD:=zh mq;clear mq kf qu jX
    go_wp2_with fail
    refine yt.o _ _ _ rfl ?_ iN.o;rw[<-E6.o,<-E7.o];exact uD.o
   ·have Px:=zh hcw
    clear hcw;refine cV ?_;refine aA (.pointer (some ⟨B3,3,none⟩)) rfl (by kernel_rfl) ?_;refine bO 53 (.tmp 35) ⟨B3,3,none⟩ (.func (.func i6) #[] g6) rfl rfl (by kernel_rfl) (λ_=>by kernel_rfl) ((BU.o.cell 3).trans (by kernel_rfl)) ?_;refine aA (.bool true) rfl (by kernel_rfl) ?_;simp only[Act.put,bo,bn,bh]
    go_upto_region 10 with fail
    refine cV ?_;refine aA (.pointer (some ⟨B3,3,none⟩)) rfl (by kernel_rfl) ?_;refine bO 53 (.tmp 38) ⟨B3,3,none⟩ (.func (.func i6) #[] g6) rfl rfl (by kernel_rfl) (λ_=>by kernel_rfl) ((BU.o.cell 3).trans (by kernel_rfl)) ?_;refine aA (.pointer (some ⟨r4,0,none⟩)) rfl (by kernel_rfl) ?_;refine wpList_load_mid rfl 29 (.tmp 1) rfl w.heap.size 0 (by kernel_rfl) (zL k dup ret q t b id c cl keep hw wt wb wq wr hu hp u pw pr code sw sc sf) _ (aD xh.o) underlying29 rfl (by kernel_rfl) ?_;refine kG i6 g6 #[.pointer (some ⟨r4,0,none⟩),.agg (zP k dup ret q t b id c cl keep hw wt wb wq wr hu hp u pw pr code sw sc sf)] rfl rfl hr (by kernel_rfl) ?_;refine(Px.o WN WC r4 jB.o zG.o.1 DP.o).mono ?_;rintro e W ⟨rfl,ha,hg⟩;refine .inl ⟨_,rfl, ?_⟩;have DP:=zh ha;have xh:=zh (hg _ _ _ xh.o (by decide) (by decide));have ux:=zh (zG.o.1.ah ha.k);clear ha hg hr Px jB BU;obtain⟨WC,Hc⟩:∃WC,WC=W:=⟨_,rfl⟩;subst Hc;simp only[Act.put,bo,bn,bh]
    go_upto_region 11 with fail
    obtain⟨BD,zq⟩:∃BD,WB++b=BD:=⟨_,rfl⟩;have zH:=zh (And.intro zq (show(WB).length<=5000/\b.length<=5000 by have:=lM.o;rw[bI]at this;first | omega | (simp only[dR]at this ⊢;omega)));have oI:=zh (show BD.length<=5000 by rw[<-zq];exact lM.o);rw[zq]at yt;clear zq lM;have LH:=dI.one (Ws:= [⟨4, [0,1,2,3], []⟩]) (i:=4) (p5 w) sF;refine bS [⟨4, [0,1,2,3], []⟩] (λW W' =>ae w W []->ae w W' []) (qV 4 (λW W' =>ae W W' [])) _ 5 LH (by kernel_rfl) rfl (by kernel_rfl) ?_;simp only[dc,dg,dF,dK];apply aU 0 _ rfl
    ·intro W vals hW ag
     clear ag;have hC:=hW.c;refine⟨?_⟩;simp only[fill];go_simp
     first | exact⟨LH.bp (ae.refl _ _),rfl⟩ | exact⟨LH.bp (ae.alloc _ _),rfl⟩
    simp only[af];refine bZ 1 (λv W' =>aS W' w.heap.size v (WB)) rfl (λW vals hW ag φ' hφ=> ?_) ?_
    ·have hC:=hW.c
     simp only[aR]at ag
     try simp only[ai]at ag
     (have hkp:=j0.one hW (.inr (show(1:Nat)∈ [0,1,2,3]by decide));have FU:=DP.o.keeps hkp;obtain⟨vw,LG⟩:=FU.v;clear ag)
     refine⟨?_⟩;simp only[fill];go_simp;exact dX LH hφ ((lX _ _ _ _ _ LG (by have:=zH.o.2.1;omega)).mono (by rintro e w2 ⟨v',rfl,ho,hk⟩;exact⟨v',rfl,hk,bR ho (by have:=(ux.o.ah hkp).size;omega)⟩))
    simp only[af];apply aU 2 _ rfl
    ·intro W vals hW ag
     clear ag;have hC:=hW.c;refine⟨?_⟩;simp only[fill];go_simp
     first | exact⟨LH.bp (ae.refl _ _),rfl⟩ | exact⟨LH.bp (ae.alloc _ _),rfl⟩
    simp only[af];apply aU 3 _ rfl
    ·intro W vals hW ag
     have hC:=hW.c;simp only[aR]at ag
     try simp only[ai]at ag
     have m5:=((xh.o.keeps (j0.one hW (.inr (show(3:Nat)∈ [0,1,2,3]by decide)))).cell 5);simp only[cg,bU,fe]at m5;clear ag;refine⟨?_⟩;simp only[fill];go_simp
     first | exact⟨LH.bp (ae.refl _ _),rfl⟩ | exact⟨LH.bp (ae.alloc _ _),rfl⟩
    simp only[af];refine bZ 4 (λv W' =>∃A c,v= .slice A BD.length c/\aS W' w.heap.size v BD) rfl (λW vals hW ag φ' hφ=> ?_) ?_
    ·simp only[aR]at ag
     try simp only[ai]at ag
     obtain⟨W4,a0,a1,how⟩:=ag (by decide);have how:=aM how (B_.one a1 (.inr (.inr (.inl rfl)))) (by simp);refine iS rfl (.tmp 44) (.tmp 46) rfl w.heap.size (vals 44) (WB) b (show _=vals 44 by kernel_rfl) how (by kernel_rfl) (by have:=zH.o.2;omega) (hW.c ux.o).size (λv' w' ho hk=> ?_);rw[zH.o.1]at ho;obtain⟨A,c,rfl,_,_⟩:=ck ho;exact⟨.one (λhh=>hh.trans hk (λy hy hlt=>by have:=(how.lt y (by simpa using hy)).1;omega)) (λh=>absurd rfl h),hφ.o _ _ ⟨A,c,rfl,ho⟩⟩
    simp only[af];refine eJ (λW9 vals hW ag=> ?_);simp only[df]at ag
    try simp only[ai]at ag
    simp only[fill,Act.put,bo,bn,bh];obtain⟨⟨_,a0,a1,A9,c9,uo,sG⟩,hrest⟩:=ag;have sG:=aM sG (qL.one a1 (.inl rfl)) (by simp);rw[uo]at sG ⊢
    have wE:=zh (And.intro sG (hW ux.o));clear a0 a1 uo sG hrest hW LH ux DP xh zG zH
    go_wp2_with fail
    refine(pZ _ BD.length (by have:=oI.o;omega)).mono ?_;rintro e W5 ⟨v5,rfl,nz,iH⟩;obtain⟨N,hN⟩:∃N,eF BD.length=N:=⟨_,rfl⟩;have rq:=zh (show N.length<=8 by rw[<-hN,ed];have:=gP BD.length;omega);rw[hN]at nz yt;obtain⟨A5,c5,rfl,_,_⟩:=ck nz;obtain⟨Wb,fg⟩:∃Wb,W5.alloc (.cells #[.int .u8 (y0.toNat:Nat)] 5)=Wb:=⟨_,rfl⟩;have kb:ae W5 Wb []:=by rw[<-fg];exact ae.alloc _ _
    have rb:aS Wb W5.heap.size (.slice (some ⟨W5.heap.size,0,none⟩) 1 1) [y0]:=by rw[<-fg];exact kJ W5 y0
    have HA:=zh (And.intro (aM wE.o.1 iH (by simp)) (And.intro rb (And.intro (aS.bytes (aM nz kb (by simp)) (by have:=rq.o;omega)) (And.intro (aM (aM wE.o.1 iH (by simp)) kb (by simp)) ((wE.o.2.ah iH).ah kb)))));have hbs:W5.heap.size<=Wb.heap.size:=kb.size;have DQ:=zh (show w.heap.size<=W5.heap.size from(wE.o.2.ah iH).size);clear nz iH kb rb wE hN
    go_wp2_with (at_builtin;refine Hid.o ?_)
    refine zh ?_;refine aI _ rfl (.tmp 55) (.tmp 56) rfl w.heap.size (.slice (some ⟨W5.heap.size,0,none⟩) 1 1) (.slice A5 N.length c5) [y0] N rfl rfl (bR HA.o.2.1 DQ.o) HA.o.2.2.1 (by have:=rq.o;simp;omega) (cH DQ.o hbs) ?_;intro A6 c6 w6 l6 E6 vZ pF ko wh;have HB:=zh (And.intro pF (And.intro (aS.bytes (aM HA.o.2.2.2.1 ko (λg hg hm=>by have:=(dM HA.o.1 g hg).2;simp[Value.ownBlock]at hm;omega)) (by have:=oI.o;omega)) (HA.o.2.2.2.2.trans ko (λy hy hlt=>by have:=DQ.o;simp[Value.ownBlock]at hy;omega))));have jX:w.heap.size<=w6.heap.size:=HB.o.2.2.size;clear pF ko wh hbs fg
    go_wp2_with (at_builtin;refine Hid.o ?_)
    refine zh ?_;refine aI _ rfl (.tmp 57) (.tmp 58) rfl w.heap.size (.slice A6 l6.length c6) (.slice A9 BD.length c9) l6 BD rfl rfl HB.o.1 HB.o.2.1 (by have:=rq.o;have:=oI.o;simp at vZ;omega) jX ?_;intro A7 c7 w7 l7 E7 qq mq kf qu;have iN:=zh (HB.o.2.2.trans kf (λy hy hlt=>by have:=(dM HB.o.1 y (by simpa using hy)).1;omega));have uD:=zh mq;clear mq kf qu jX
    go_wp2_with fail
    refine yt.o _ _ _ rfl ?_ iN.o;rw[<-E6.o,<-E7.o];exact uD.o
end Go.Proofs.YtahbikfbjenfpaaGreatDoor

namespace Go.Proofs.YtahbikfbjenfpaaGreatDoor
open Tryz Go.RowKit Go.Shelf

abbrev si:Array Value:=eM
theorem yV (p q:Addr)(w:au):
  CallsD prog 29 #[.pointer (some p),.pointer (some q)] .returning w λe u' w' =>e= .returned (.tuple #[])/\u' = .returning/\w' =w:=by
 refine callsD_of_wpS func29 rfl λc₀ cs hu=> ?_
 apply wpS_seq;apply wpS_region;simp[wpOpsS,go_sem,recoverD,hu,ntmps29,Exit.thenS];refine wpS_of_wp ?_
 go_wp2
 cases c₀
 simp_all [bodyPostS,results,results29]

theorem yU (b1 b2:Nat)(w:au)(Y:Array Value)(v2:Value)(hY:Y.size=24)(h1:Row w b1 29 Y)(h2:Row w b2 33 #[v2]):
  CallsD prog 29 #[.pointer (some ⟨b1,0,none⟩),.pointer (some ⟨b2,0,none⟩)] (.panicking [{v:= .iface 67 (.agg #[]),recovered:=false}]) w λe u' w' =>
   e= .returned (.tuple #[])/\u' = .panicking [{v:= .iface 67 (.agg #[]),recovered:=true}]/\Row w' b1 29 si/\Row w' b2 33 #[.int .i64 260]/\ae w w' [b1,b2]:=by
 refine callsD_of_wpS func29 rfl λc₀ cs hu=> ?_
 apply wpS_seq;apply wpS_region;simp[wpOpsS,go_sem,recoverD,hu,ntmps29,Exit.thenS];refine wpS_of_wp ?_;have Wp:∀W:au,(Instr.typeAssert (.iface 67 (.agg #[])) 20 67 true).run prog W= .ok (.tuple #[.agg #[],.bool true]) W:=λW=>by kernel_rfl
 have SB:b1≠b2:=h1.fI h2 (by decide);have a1:=h1.alloc (.cells #[] 67);have a2:=h2.alloc (.cells #[] 67);obtain⟨Wa,FB⟩:∃Wa,w.alloc (.cells #[] 67)=Wa:=⟨_,rfl⟩;have ka:ae w Wa []:=by rw[<-FB];exact ae.alloc _ _
 rw[FB]at a1 a2;have HH:=zh (And.intro a1 (And.intro a2 (And.intro ka SB)));clear a1 a2 ka SB h1 h2;rw[show(#[Value.pointer (some ⟨b1,0,none⟩),Value.pointer (some ⟨b2,0,none⟩)]++((Array.replicate 10 undef).setIfInBounds 3 (Value.iface 67 (Value.agg #[]))):Array Value)= #[Value.pointer (some ⟨b1,0,none⟩),Value.pointer (some ⟨b2,0,none⟩),undef,undef,undef,Value.iface 67 (Value.agg #[]),undef,undef,undef,undef,undef,undef]from rfl]
 go_upto_region 7 with fail
 try rw[FB]
 clear FB;refine cV ?_;refine aA (.agg si) rfl (by kernel_rfl) ?_;refine wpList_store_row rfl (.tmp 0) (.tmp 11) 29 rfl b1 si Y HH.o.1 (by kernel_rfl) (by rw[hY];rfl) (by simp[Value.oneCell']) rfl rfl ?_;intro w7 r7 k7;simp only[Act.put,bo,bn,bh];have q2:=HH.o.2.1.keep k7 (by have:=HH.o.2.2.2;simp;omega);have c2:=q2.cell 0;have f2:=q2.frozen 0;simp only[cg,bU]at c2;have H7:=zh (And.intro r7 (And.intro q2 ((HH.o.2.2.1.weaken (T:= [b1]) (by simp)).trans k7 (λ_ h _=>h))));clear r7 k7 q2
 go_wp2_with fail
 have z1:=H7.o.1.far (p:=⟨b2,0,none⟩) HH.o.2.2.2 (.int .i64 260);have z2:=H7.o.2.1.store 0 (.int .i64 260);have hk:ae w (w7.setCell ⟨b2,0,none⟩ (.int .i64 260)) [b1,b2]:=
  (H7.o.2.2.weaken (T:= [b1,b2]) (by simp)).trans (ae.setCell _ _ _) (by simp)
 simp[bodyPostS,results,results29];exact⟨by simpa using z1,by simpa using z2,hk⟩
/-- The two results' cells, and that nothing else that lay was changed. -/
structure qy (w W:au)(B:Nat)(cs:Array Value)(e:Value):Prop where
 k:ae w W []
 r1:Row W B 29 cs
 r2:Row W (B+1) 33 #[e]
 hB:w.heap.size<=B
 sz:cs.size=24
section
variable {w W W' :au} {B:Nat} {cs:Array Value} {e:Value}
theorem qy.go (h:qy w W B cs e)(hk:ae W W' []):qy w W' B cs e:=⟨h.k.ah hk,h.r1.keeps hk,h.r2.keeps hk,h.hB,h.sz⟩
theorem qy.IY {r:Nat}(h:qy w W B cs e)(hk:ae W W' [r])(hr:B+1 < r):qy w W' B cs e:=
 ⟨h.k.trans hk (λx hx hlt=>by have:=h.hB;simp at hx;omega),h.r1.keep hk (by simp;omega),h.r2.keep hk (by simp;omega),h.hB,h.sz⟩
theorem qy.err (h:qy w W B cs e)(v:Value):qy w (W.setCell ⟨B+1,0,none⟩ v) B cs v/\ae W (W.setCell ⟨B+1,0,none⟩ v) [B+1]:=by
 have hk:ae W (W.setCell ⟨B+1,0,none⟩ v) [B+1]:=ae.setCell _ _ _;exact⟨⟨h.k.trans hk (λx hx hlt=>by have:=h.hB;simp at hx;omega),h.r1.keep hk (by simp),by simpa using h.r2.store 0 v,h.hB,h.sz⟩,hk⟩
theorem qy.put (h:qy w W B cs e){X:Array Value}(hk:ae W W' [B])(hr:Row W' B 29 X)(hX:X.size=24):qy w W' B X e:=
 ⟨h.k.trans hk (λx hx hlt=>by have:=h.hB;simp at hx;omega),hr,h.r2.keep hk (by simp),h.hB,hX⟩
end
abbrev Ec (B:Nat):Deferred:={target:=Target.fn (Fn.func 29) #[.pointer (some ⟨B,0,none⟩),.pointer (some ⟨B+1,0,none⟩)],args:= #[]}
/-- What Parse answers. -/
def DM (w:au)(b:aG)(e:Ending)(w' :au):Prop:=ae w w' []/\
 ((∃p sw sc sf,fc b p/\e= .returned (.tuple #[eO p sw sc sf,.int .i64 0])/\jz w' p sw sc sf)\/((∀p,¬fc b p)/\e= .returned (.tuple #[.agg si,.int .i64 260])))

theorem vJ (W:au)(t:Array Value)(B:Nat){cs:Array Value}{e:Value}(hs:cs.size=24)(q1:Row W B 29 cs)(q2:Row W (B+1) 33 #[e])(h6:t.getD 2 undef= .pointer (some ⟨B,0,none⟩))(h7:t.getD 3 undef= .pointer (some ⟨B+1,0,none⟩)):
  (results Tryz.f14 t).run prog W= .ok (.tuple #[.agg cs,e]) W:=by
 have hl1:(loadVar 29 ⟨B,0,none⟩).run prog W= .ok (.agg cs) W:=by
  have:=run_loadVar_mid (P:=prog) W B 0 29 cs.toList _ (aD q1) underlying29 rfl (by rw[xG,hs];kernel_rfl)
  simpa using this
 have c2:=q2.cell 0;simp only[cg,bU]at c2;have hl2:(loadVar 33 ⟨B+1,0,none⟩).run prog W= .ok e W:=by
  have ht:∀W,(isAgg 33).run prog W= .ok false W:=λ_=>by kernel_rfl
  simp[loadVar,ht,go_sem,c2]
 have hr:Tryz.f14.results= #[ResultVar.cell 2 29,ResultVar.cell 3 33]:=results14;rw[ou]at h6 h7;unfold results;rw[hr];simp[h6,h7,asAddr,hl1,hl2]
theorem eB {b:aG}{w:au}(W:au)(t:Array Value)(B:Nat){cs:Array Value}{e:Value}(st:qy w W B cs e)(hno:∀p,¬fc b p)(h6:t.getD 2 undef= .pointer (some ⟨B,0,none⟩))(h7:t.getD 3 undef= .pointer (some ⟨B+1,0,none⟩)):
  bodyPostD prog Tryz.f14 (DM w b) (Exit.panic [{v:= .iface 67 (.agg #[]),recovered:=false}]) {tmps:=t,defers:= [Ec B]} W:=by
 refine leaves_cons (f:=29) (args:= #[.pointer (some ⟨B,0,none⟩),.pointer (some ⟨B+1,0,none⟩)]) (by simp) (by simp[go_sem]) ?_;refine(yU B (B+1) W cs e st.sz st.r1 st.r2).mono ?_;rintro e u' w'' ⟨rfl,rfl,q1,q2,hk⟩;have hres:=vJ w'' t B rfl q1 q2 h6 h7;simp[Leaves,settle,hres];exact⟨st.k.trans hk (λx hx hlt=>by have:=st.hB;simp at hx;omega),.inr ⟨hno,rfl⟩⟩
theorem uI {b:aG}{w:au}(W:au)(t:Array Value)(B:Nat){p:Pk}{sw sc sf:Value}{cs:Array Value}(hcs:Value.agg cs=eO p sw sc sf)(st:qy w W B cs (.int .i64 0))(hl:jz W p sw sc sf)(PU:fc b p)(h6:t.getD 2 undef= .pointer (some ⟨B,0,none⟩))(h7:t.getD 3 undef= .pointer (some ⟨B+1,0,none⟩)):
  bodyPostD prog Tryz.f14 (DM w b) Exit.ret {tmps:=t,defers:= [Ec B]} W:=by
 have hres:=vJ W t B st.sz st.r1 st.r2 h6 h7;refine leaves_cons (f:=29) (args:= #[.pointer (some ⟨B,0,none⟩),.pointer (some ⟨B+1,0,none⟩)]) (by simp) (by simp[go_sem]) ?_;refine(yV _ _ W).mono ?_;rintro e u' w'' ⟨rfl,rfl,rfl⟩;simp[Leaves,settle,hres];exact⟨st.k,.inl ⟨p,sw,sc,sf,PU,by rw[hcs],hl⟩⟩
end Go.Proofs.YtahbikfbjenfpaaGreatDoor
