/- Package packet: a wish, a code, all that is left: read. Package packet: how kinds that have an ID are read. Package packet: how kinds are read. -/
import Derived.Test.YtahbikfbjenfpaaGreatDoorPa26
set_option maxHeartbeats 2000000
set_option maxRecDepth 100000
namespace Go.Proofs.YtahbikfbjenfpaaGreatDoor
open Tryz Go.RowKit

def gX (V V1:aG)(k:Nat):aG:=if k=1 then V else V1
theorem Jl:∃d,Tryz.prog.underlying 50=some d/\d.isRow=true:=⟨_,underlying50,rfl⟩
theorem Jt (w:au)(base r bx:Nat)(l:aG)(h:Rd w base r l)(hb:Row w bx 74 #[.pointer (some ⟨r,0,none⟩)]):
  Calls prog 79 #[.pointer (some ⟨bx,0,none⟩)] w (DL w base r ((dC l).map λx=>(.int .i64 x.1,x.2))):=by
 have c0:=hb.cell 0;simp only[cg,bU]at c0;have H:=zh h;clear h hb
 rcases hE:jv 1 l with _ | ⟨n,t⟩
 ·have HT:=zh (show dC l=none by unfold dC;rw[hE];rfl)
  have HE:=zh hE;clear hE
  go_enter func79,ntmps79
  go_wp2_with fail
  refine(gF (k' :=1) H.o HE.o (by omega) (by omega) rfl).mono ?_;rintro e w1 ⟨hk,rfl⟩;have HK:=zh hk;refine⟨rfl,HK.o, ?_⟩;rw[HT.o];rfl
 ·have HT:=zh (show dC l=some ((n:Int),t)by unfold dC;rw[hE];rfl)
  have HE:=zh hE;clear hE
  go_enter func79,ntmps79
  go_wp2_with fail
  refine(eT H.o HE.o).mono ?_;rintro e w1 ⟨hk,rfl,cS⟩;have HK:=zh (And.intro hk cS);clear hk cS c0
  go_wp2_with fail
  go_ret;refine⟨HK.o.1, ?_⟩;rw[HT.o];exact⟨rfl,HK.o.2⟩
theorem Js (w:au)(base r bx:Nat)(l:aG)(h:Rd w base r l)(hb:Row w bx 74 #[.pointer (some ⟨r,0,none⟩)]):
  Calls prog 70 #[.pointer (some ⟨bx,0,none⟩)] w (DL w base r ((cU l).map λx=>(.agg #[.string ⟨x.1.1.toArray⟩,.int .i64 x.1.2],x.2))):=by
 have jt:=zh (show bx≠r by
  rintro rfl;obtain⟨x,h1⟩:=h.row;exact Row.fI hb h1 (by decide) rfl)
 obtain⟨W0,aV⟩:∃W0,w.alloc (.cells #[.string ⟨#[]⟩,.int .i64 0] 50)=W0:=⟨_,rfl⟩;have k0:ae w W0 []:=by rw[<-aV];exact ae.alloc _ _
 have HR:=zh (show Row W0 w.heap.size 50 #[.string ⟨#[]⟩,.int .i64 0]by rw[<-aV];exact Row.new _ _ _);have HB:=zh (hb.keeps k0);have iz:=zh (h.keep k0 (by simp));have HK:=zh k0;have HL:=zh h.lt;have MI:=λ(W:au) (hC:qQ r W0 W)=>(HB.o.keep (show ae W0 W [r]from hC) (by have:=jt.o;simpa using this)).cell 0
 simp only[cg,bU]at MI;clear k0 h hb
 go_enter func70,ntmps70
 go_upto_region 1 with fail
 clear aV
 rcases wi:cQ l with _ | ⟨s1,V1⟩
 ·skip
  have gZ:=zh (show cU l=none by unfold cU;rw[wi];rfl);have E1:=zh wi;clear wi;have LH:dI [⟨1, [], []⟩] (qQ r) (sW base r l (gX l l)):=iD;refine cZ [⟨1, [], []⟩] (qQ r) (sW base r l (gX l l)) _ 1 [] _ rfl LH (by kernel_rfl) rfl (by kernel_rfl) ?_;apply bL 0 _ rfl (by decide)
  ·intro W vals hW ag
   have hC:=hW.c;simp only[aR]at ag
   try simp only[ai]at ag
   clear ag;have m:=MI W hC;refine⟨?_⟩;simp only[fill];go_simp
   first | exact⟨LH.bp (ae.refl _ _),rfl⟩ | exact⟨LH.bp (ae.alloc _ _),rfl⟩
  simp only[af];refine gA rfl (λW vals hW ag=> ?_) ?_
  ·have hC:=hW.c
   simp only[aR]at ag
   try simp only[ai]at ag
   have hr:Rd W base r l:=(hW.a ⟨1, [], []⟩ (by simp) (.inl rfl)).1 iz.o;clear ag;simp only[fill,Act.put,bo,bn,bh];refine⟨rfl,71, #[.agg #[.pointer (some ⟨r,0,none⟩)]],W,by go_simp, ?_⟩;refine(eI hr E1.o).mono ?_;rintro e w9 ⟨kD,rfl⟩;refine⟨_,rfl,λa' hd' ht' => ?_⟩;obtain⟨t',d'⟩:=a';simp only at hd';subst hd';simp only[Exit.then];exact⟨rfl,((HK.o.weaken (T:= [r]) (by simp)).trans (show ae W0 _ [r]from hC) (λ_ hx _=>hx)).trans kD (λ_ hx _=>hx),by rw[gZ.o];rfl⟩
  simp only[af];apply bL 2 _ rfl (by decide)
  ·intro W vals hW ag
   have hC:=hW.c;simp only[aR]at ag
   try simp only[ai]at ag
   clear ag;have m:=MI W hC;refine⟨?_⟩;simp only[fill];go_simp
   first | exact⟨LH.bp (ae.refl _ _),rfl⟩ | exact⟨LH.bp (ae.alloc _ _),rfl⟩
  simp only[af];refine bC 3 rfl (by decide) (by kernel_rfl) ?_;simp only[af];refine bC 4 rfl (by decide) (by kernel_rfl) ?_;simp only[af];refine bC 5 rfl (by decide) (by kernel_rfl) ?_;simp only[af];exact iq
 have E1:=zh wi;have SF:V1.length < l.length:=by
  have:=(eH wi).2.2;omega
 clear wi
 rcases oC:jv 1 V1 with _ | ⟨n2,V2⟩
 ·skip
  have gZ:=zh (show cU l=none by unfold cU;rw[E1.o];simp only[di];rw[oC];rfl);have E2:=zh oC;clear oC;have LH:dI [⟨1, [], []⟩,⟨3, [], []⟩] (qQ r) (sW base r V1 (gX l V1)):=iD;refine cZ [⟨1, [], []⟩,⟨3, [], []⟩] (qQ r) (sW base r V1 (gX l V1)) _ 3 [3] _ rfl LH (by kernel_rfl) rfl (by kernel_rfl) ?_;apply bL 0 _ rfl (by decide)
  ·intro W vals hW ag
   have hC:=hW.c;simp only[aR]at ag
   try simp only[ai]at ag
   clear ag;have m:=MI W hC;refine⟨?_⟩;simp only[fill];go_simp
   first | exact⟨LH.bp (ae.refl _ _),rfl⟩ | exact⟨LH.bp (ae.alloc _ _),rfl⟩
  simp only[af];refine qW 1 [] (λ_ v W' =>v= .string ⟨s1.toArray⟩/\Rd W' base r V1) rfl (by decide) (by kernel_rfl) (λW vals hW ag φ' hφ=> ?_) ?_
  ·have hC:=hW.c
   simp only[aR]at ag
   try simp only[ai]at ag
   have hr:Rd W base r l:=(hW.a ⟨1, [], []⟩ (by simp) (.inl rfl)).1 iz.o;clear ag;refine⟨?_⟩;simp only[fill];go_simp;exact dA LH hφ ((da hr E1.o).mono (by rintro e w9 ⟨h1,h2,h3⟩;exact⟨_,h2,rU hr h1 (by simp[gX] <;> omega) (by simp[gX] <;> omega),rfl,h3⟩))
  simp only[af];apply bL 2 _ rfl (by decide)
  ·intro W vals hW ag
   have hC:=hW.c;simp only[aR]at ag
   try simp only[ai]at ag
   clear ag;have m:=MI W hC;refine⟨?_⟩;simp only[fill];go_simp
   first | exact⟨LH.bp (ae.refl _ _),rfl⟩ | exact⟨LH.bp (ae.alloc _ _),rfl⟩
  simp only[af];refine gA rfl (λW vals hW ag=> ?_) ?_
  ·have hC:=hW.c
   simp only[aR]at ag
   try simp only[ai]at ag
   obtain⟨W1,h0,h1,_,cS⟩:=ag (by decide);have hr:Rd W base r V1:=(h1.a ⟨3, [], []⟩ (by simp) (.inr (.inr (.inl rfl)))).1 cS;clear ag;simp only[fill,Act.put,bo,bn,bh];refine⟨rfl,58, #[.agg #[.pointer (some ⟨r,0,none⟩)],.int .i64 1],W,by go_simp, ?_⟩;refine(gF (k' :=1) hr E2.o (by omega) (by omega) rfl).mono ?_;rintro e w9 ⟨kD,rfl⟩;refine⟨_,rfl,λa' hd' ht' => ?_⟩;obtain⟨t',d'⟩:=a';simp only at hd';subst hd';simp only[Exit.then];exact⟨rfl,((HK.o.weaken (T:= [r]) (by simp)).trans (show ae W0 _ [r]from hC) (λ_ hx _=>hx)).trans kD (λ_ hx _=>hx),by rw[gZ.o];rfl⟩
  simp only[af];refine bC 4 rfl (by decide) (by kernel_rfl) ?_;simp only[af];refine bC 5 rfl (by decide) (by kernel_rfl) ?_;simp only[af];exact iq
 have E2:=zh oC;have SD:V2.length < V1.length:=by
  have:=(bJ oC).2.2;omega
 have HT:=zh (show cU l=some ((s1,(n2:Int)),V2)by unfold cU;rw[E1.o];simp only[di];rw[oC];rfl);clear oC;have LH:dI [⟨1, [], []⟩,⟨3, [], []⟩] (qQ r) (sW base r V2 (gX l V1)):=iD;refine bS [⟨1, [], []⟩,⟨3, [], []⟩] (qQ r) (sW base r V2 (gX l V1)) _ 5 LH (by kernel_rfl) rfl (by kernel_rfl) ?_;simp only[dc,dg,dF,dK];apply aU 0 _ rfl
 ·intro W vals hW ag
  have hC:=hW.c;simp only[aR]at ag
  try simp only[ai]at ag
  clear ag;have m:=MI W hC;refine⟨?_⟩;simp only[fill];go_simp
  first | exact⟨LH.bp (ae.refl _ _),rfl⟩ | exact⟨LH.bp (ae.alloc _ _),rfl⟩
 simp only[af];refine il 1 [] (λ_ v W' =>v= .string ⟨s1.toArray⟩/\Rd W' base r V1) rfl (by kernel_rfl) (λW vals hW ag φ' hφ=> ?_) ?_
 ·have hC:=hW.c
  simp only[aR]at ag
  try simp only[ai]at ag
  have hr:Rd W base r l:=(hW.a ⟨1, [], []⟩ (by simp) (.inl rfl)).1 iz.o;clear ag;refine⟨?_⟩;simp only[fill];go_simp;exact dA LH hφ ((da hr E1.o).mono (by rintro e w9 ⟨h1,h2,h3⟩;exact⟨_,h2,rU hr h1 (by simp[gX] <;> omega) (by simp[gX] <;> omega),rfl,h3⟩))
 simp only[af];apply aU 2 _ rfl
 ·intro W vals hW ag
  have hC:=hW.c;simp only[aR]at ag
  try simp only[ai]at ag
  clear ag;have m:=MI W hC;refine⟨?_⟩;simp only[fill];go_simp
  first | exact⟨LH.bp (ae.refl _ _),rfl⟩ | exact⟨LH.bp (ae.alloc _ _),rfl⟩
 simp only[af];refine il 3 [3] (λ_ v W' =>v= .int .i64 (n2:Nat)/\Rd W' base r V2) rfl (by kernel_rfl) (λW vals hW ag φ' hφ=> ?_) ?_
 ·have hC:=hW.c
  simp only[aR]at ag
  try simp only[ai]at ag
  obtain⟨W1,h0,h1,_,cS⟩:=ag (by decide);have hr:Rd W base r V1:=(h1.a ⟨3, [], []⟩ (by simp) (.inr (.inr (.inl rfl)))).1 cS;clear ag;refine⟨?_⟩;simp only[fill];go_simp;exact dA LH hφ ((eT hr E2.o).mono (by rintro e w9 ⟨h1,h2,h3⟩;exact⟨_,h2,rU hr h1 (by simp[gX] <;> omega) (by simp[gX] <;> omega),rfl,h3⟩))
 simp only[af];refine bZ 4 (λv _=>v= .agg #[.string ⟨s1.toArray⟩,.int .i64 (n2:Nat)]) rfl (λW vals hW ag φ' hφ=> ?_) ?_
 ·have hC:=hW.c
  simp only[aR]at ag
  try simp only[ai]at ag
  obtain⟨q5,q3⟩:=ag;obtain⟨_,_,_,v5,_⟩:=q5 (by decide);obtain⟨_,_,_,v3,_⟩:=q3 (by decide);clear q5 q3;refine⟨?_⟩;simp only[fill];go_simp;exact⟨LH.bp (ae.refl _ _),hφ.o _ _ rfl⟩
 simp only[af];refine eJ (λW9 vals hW ag=> ?_);simp only[df]at ag
 try simp only[ai]at ag
 simp only[fill,Act.put,bo,bn,bh];obtain⟨⟨_,_,_,v6⟩,⟨W1,_,p1,_,cS⟩,_⟩:=ag;have RT:=zh (show Rd W9 base r V2 from(p1.a ⟨3, [], []⟩ (by simp) (.inl rfl)).2 cS);have JW:ae W0 W9 [r]:=hW;rw[v6];have MA:=zh (HR.o.keep JW (by have:=HL.o;simp;omega));have MP:=zh ((HK.o.weaken (T:= [r]) (by simp)).trans JW (λ_ hx _=>hx));clear p1 cS JW hW v6 MI LH;refine wpList_store_row rfl (.tmp 1) (.tmp 6) 50 rfl w.heap.size #[.string ⟨s1.toArray⟩,.int .i64 (n2:Nat)] #[.string ⟨#[]⟩,.int .i64 0] MA.o (by kernel_rfl) rfl (by simp[Value.oneCell']) rfl rfl ?_;intro w7 r7 k7;have ku:=zh r7;have kr:=zh (RT.o.far k7 (λx hx=>by have:=HL.o;simp at hx;omega));have iN:=zh (MP.o.trans k7 (λx hx hlt=>by simp at hx;omega));clear r7 k7
 go_wp2_with fail
 obtain⟨d,hu,hd⟩:=Jl;refine bD (aW (s:=1) (cs:= [.string ⟨s1.toArray⟩,.int .i64 (n2:Nat)]) rfl rfl (aD ku.o) hu hd (by kernel_rfl)) rfl ⟨iN.o, ?_⟩;rw[HT.o];exact⟨rfl,kr.o⟩

abbrev Gz:Ending:= .panicked [{v:= .iface 67 (.agg #[]),recovered:=false}]
/-- What reading a packet does. -/
def ni (w:au)(base r:Nat)(o:Option (Pk×aG))(e:Ending)(w' :au):Prop:=ae w w' [r]/\match o with
 | some (p,t)=>∃sw sc sf,e= .returned (eO {p with k:=0} sw sc sf)/\jz w' p sw sc sf/\Rd w' base r t
 | none=>e=Gz
/-- What reading a list does. -/
def wC (w:au)(base r g:Nat)(id:Int)(o:Option (Pk×aG))(e:Ending)(w' :au):Prop:=ae w w' [r,g]/\match o with
 | some (p,t)=>∃A1 n1 c1 A2 n2 c2 A3 n3 c3,e= .returned (.tuple #[])/\Row w' g 29 (tf 0 id (.slice A1 n1 c1) (.slice A2 n2 c2) (.slice A3 n3 c3))/\(p= {bN with k:=p.k,id:=id,wants:=p.wants,aF:=p.aF,fs:=p.fs}/\jz w' p (.slice A1 n1 c1) (.slice A2 n2 c2) (.slice A3 n3 c3))/\Rd w' base r t
 | none=>e=Gz
def gM (k:Int)(id:Int)(l:aG):Option (Pk×aG):=
 if k=8 then(bM cU l.length l).bind λaz=>some ({bN with k:=k,id:=id,wants:=az}, [])
 else if k=9 then(bM dC l.length l).bind λaz=>some ({bN with k:=k,id:=id,aF:=az}, [])
 else if k=10 then(bM cQ l.length l).bind λaz=>some ({bN with k:=k,id:=id,fs:=az}, [])
 else some ({bN with k:=k,id:=id},l)
theorem EO (k:Int)(l:aG):iK k l=(jv 2 l).bind λi=>gM k (i.1:Int) i.2:=rfl
theorem uh (W:au)(base r g:Nat)(k id:Int)(l:aG)(hk:k=4\/k=5\/k=6\/k=7\/k=11)(h:Rd W base r l)(hg:Row W g 29 (qz 0 id)):
  Calls prog 142 #[.agg #[.pointer (some ⟨r,0,none⟩)],.pointer (some ⟨g,0,none⟩)] W (wC W base r g id (gM k id l)):=by
 have e0:gM k id l=some ({bN with k:=k,id:=id},l):=by unfold gM;rw[aj (by omega),aj (by omega),aj (by omega)]
 rw[e0];have H:=zh (And.intro h hg);clear h hg
 go_enter func142,ntmps142
 go_wp2_with fail
 exact mM (jR rfl _ _ _) rfl ⟨(ae.alloc _ _).weaken (by simp),none,0,0,none,0,0,none,0,0,rfl,H.o.2.alloc _,⟨rfl,jz.empty rfl rfl rfl⟩,H.o.1.keep (ae.alloc _ _) (by simp)⟩
theorem Fl (W:au)(base r g:Nat)(id:Int)(l:aG)(h:Rd W base r l)(hrg:r < g)(hl:l.length<=100000)(hg:Row W g 29 (qz 0 id)):
  Calls prog 68 #[.agg #[.pointer (some ⟨r,0,none⟩)],.pointer (some ⟨g,0,none⟩)] W (wC W base r g id (gM 8 id l)):=by
 obtain⟨W0,aV⟩:∃W0,W.alloc (.cells #[.pointer (some ⟨r,0,none⟩)] 74)=W0:=⟨_,rfl⟩;have k0:ae W W0 []:=by rw[<-aV];exact ae.alloc _ _
 have HB:=zh (show Row W0 W.heap.size 74 #[.pointer (some ⟨r,0,none⟩)]by rw[<-aV];exact Row.new _ _ _);have oe:=zh h.lt;have HG:=zh (hg.keeps k0);have IL:=zh (And.intro hg.lt hrg);have HK:=zh k0;have HA:=zh (Ib W0 base r W.heap.size l (h.keep k0 (by simp)) hl (λW2 t kq ht=>Js W2 base r W.heap.size t ht (HB.o.keep kq (by have:=oe.o;simp;omega))));have hlt:=IL.o.1;have c0:=HB.o.cell 0;simp only[cg,bU]at c0;clear k0 h hg;have HE:=zh (show gM 8 id l=((bM cU l.length l).bind λaz=>some ({bN with k:=8,id:=id,wants:=az}, []))by rfl);rw[HE.o]
 go_enter func68,ntmps68
 go_wp2_with fail
 refine HA.o.mono ?_;rintro e w1 ⟨hk,hpost⟩;have kU:=zh ((HK.o.weaken (T:= [r]) (by simp)).trans hk (λ_ hx _=>hx));have kF:=zh (HG.o.keep hk (by have:=IL.o.2;simp;omega));clear hk
 cases hX:bM cU l.length l with
 | none=>
  have DN:=zh hX;rw[hX]at hpost;subst hpost;exact⟨rfl,kU.o.weaken (by simp),by rw[DN.o];rfl⟩
 | some az=>
  have DN:=zh hX;rw[hX]at hpost;obtain⟨v,rfl,ho,cS⟩:=hpost;obtain⟨A,c,rfl⟩:=ho.slice;have HO:=zh ho;have iz:=zh cS;have g0:=kF.o.cell 21;have f0:=kF.o.frozen 21;simp only[cg,bU,fe]at g0;clear hX ho cS aV
  go_wp2_with fail
  have kS:=ae.setCell w1 ⟨g,21,none⟩ (.slice A az.length c);have iV:∀x∈ [g],r < x:=by have:=IL.o.2;simpa using this
  refine mM (jR rfl _ _ _) rfl ⟨(kU.o.weaken (T:= [r,g]) (by simp)).trans kS (λx hx _=>by simp at hx;simp[hx]), ?_⟩;rw[DN.o];exact⟨A,az.length,c,none,0,0,none,0,0,rfl,kF.o.store 21 (.slice A az.length c),⟨rfl,⟨⟨A,c,rfl,(HO.o.keep kS (λx hx=> .inr (λcs hr=>by have hx:=List.mem_singleton.1 hx;subst hx;exact Row.fI kF.o hr (by decide) rfl))).at_ uO⟩,⟨none,0,rfl,bw.nil _ _ _ _ _⟩,⟨none,0,rfl,bw.nil _ _ _ _ _⟩⟩⟩,iz.o.far kS iV⟩
theorem Fk (W:au)(base r g:Nat)(id:Int)(l:aG)(h:Rd W base r l)(hrg:r < g)(hl:l.length<=100000)(hg:Row W g 29 (qz 0 id)):
  Calls prog 77 #[.agg #[.pointer (some ⟨r,0,none⟩)],.pointer (some ⟨g,0,none⟩)] W (wC W base r g id (gM 9 id l)):=by
 obtain⟨W0,aV⟩:∃W0,W.alloc (.cells #[.pointer (some ⟨r,0,none⟩)] 74)=W0:=⟨_,rfl⟩;have k0:ae W W0 []:=by rw[<-aV];exact ae.alloc _ _
 have HB:=zh (show Row W0 W.heap.size 74 #[.pointer (some ⟨r,0,none⟩)]by rw[<-aV];exact Row.new _ _ _);have oe:=zh h.lt;have HG:=zh (hg.keeps k0);have IL:=zh (And.intro hg.lt hrg);have HK:=zh k0;have HA:=zh (Ie W0 base r W.heap.size l (h.keep k0 (by simp)) hl (λW2 t kq ht=>Jt W2 base r W.heap.size t ht (HB.o.keep kq (by have:=oe.o;simp;omega))));have hlt:=IL.o.1;have c0:=HB.o.cell 0;simp only[cg,bU]at c0;clear k0 h hg;have HE:=zh (show gM 9 id l=((bM dC l.length l).bind λaz=>some ({bN with k:=9,id:=id,aF:=az}, []))by rfl);rw[HE.o]
 go_enter func77,ntmps77
 go_wp2_with fail
 refine HA.o.mono ?_;rintro e w1 ⟨hk,hpost⟩;have kU:=zh ((HK.o.weaken (T:= [r]) (by simp)).trans hk (λ_ hx _=>hx));have kF:=zh (HG.o.keep hk (by have:=IL.o.2;simp;omega));clear hk
 cases hX:bM dC l.length l with
 | none=>
  have DN:=zh hX;rw[hX]at hpost;subst hpost;exact⟨rfl,kU.o.weaken (by simp),by rw[DN.o];rfl⟩
 | some az=>
  have DN:=zh hX;rw[hX]at hpost;obtain⟨v,rfl,ho,cS⟩:=hpost;obtain⟨A,c,rfl⟩:=ho.slice;have HO:=zh ho;have iz:=zh cS;have g0:=kF.o.cell 22;have f0:=kF.o.frozen 22;simp only[cg,bU,fe]at g0;clear hX ho cS aV
  go_wp2_with fail
  have kS:=ae.setCell w1 ⟨g,22,none⟩ (.slice A az.length c);have iV:∀x∈ [g],r < x:=by have:=IL.o.2;simpa using this
  refine mM (jR rfl _ _ _) rfl ⟨(kU.o.weaken (T:= [r,g]) (by simp)).trans kS (λx hx _=>by simp at hx;simp[hx]), ?_⟩;rw[DN.o];exact⟨none,0,0,A,az.length,c,none,0,0,rfl,kF.o.store 22 (.slice A az.length c),⟨rfl,⟨⟨none,0,rfl,bw.nil _ _ _ _ _⟩,⟨A,c,rfl,(HO.o.keep kS (λx hx=> .inr (λcs hr=>by have hx:=List.mem_singleton.1 hx;subst hx;exact Row.fI kF.o hr (by decide) rfl))).at_ p_⟩,⟨none,0,rfl,bw.nil _ _ _ _ _⟩⟩⟩,iz.o.far kS iV⟩
theorem CZ (W:au)(base r g:Nat)(id:Int)(l:aG)(h:Rd W base r l)(hrg:r < g)(hl:l.length<=100000)(hg:Row W g 29 (qz 0 id)):
  Calls prog 84 #[.agg #[.pointer (some ⟨r,0,none⟩)],.pointer (some ⟨g,0,none⟩)] W (wC W base r g id (gM 10 id l)):=by
 obtain⟨W0,aV⟩:∃W0,W.alloc (.cells #[.pointer (some ⟨r,0,none⟩)] 74)=W0:=⟨_,rfl⟩;have k0:ae W W0 []:=by rw[<-aV];exact ae.alloc _ _
 have HB:=zh (show Row W0 W.heap.size 74 #[.pointer (some ⟨r,0,none⟩)]by rw[<-aV];exact Row.new _ _ _);have oe:=zh h.lt;have HG:=zh (hg.keeps k0);have IL:=zh (And.intro hg.lt hrg);have HK:=zh k0;have HA:=zh (Ic W0 base r W.heap.size l (h.keep k0 (by simp)) hl (λW2 t kq ht=>tD W2 base r t ht));have hlt:=IL.o.1;have c0:=HB.o.cell 0;simp only[cg,bU]at c0;clear k0 h hg;have HE:=zh (show gM 10 id l=((bM cQ l.length l).bind λaz=>some ({bN with k:=10,id:=id,fs:=az}, []))by rfl);rw[HE.o]
 go_enter func84,ntmps84
 go_wp2_with fail
 refine HA.o.mono ?_;rintro e w1 ⟨hk,hpost⟩;have kU:=zh ((HK.o.weaken (T:= [r]) (by simp)).trans hk (λ_ hx _=>hx));have kF:=zh (HG.o.keep hk (by have:=IL.o.2;simp;omega));clear hk
 cases hX:bM cQ l.length l with
 | none=>
  have DN:=zh hX;rw[hX]at hpost;subst hpost;exact⟨rfl,kU.o.weaken (by simp),by rw[DN.o];rfl⟩
 | some az=>
  have DN:=zh hX;rw[hX]at hpost;obtain⟨v,rfl,ho,cS⟩:=hpost;obtain⟨A,c,rfl⟩:=ho.slice;have HO:=zh ho;have iz:=zh cS;have g0:=kF.o.cell 23;have f0:=kF.o.frozen 23;simp only[cg,bU,fe]at g0;clear hX ho cS aV
  go_wp2_with fail
  have kS:=ae.setCell w1 ⟨g,23,none⟩ (.slice A az.length c);have iV:∀x∈ [g],r < x:=by have:=IL.o.2;simpa using this
  refine mM (jR rfl _ _ _) rfl ⟨(kU.o.weaken (T:= [r,g]) (by simp)).trans kS (λx hx _=>by simp at hx;simp[hx]), ?_⟩;rw[DN.o];exact⟨none,0,0,none,0,0,A,az.length,c,rfl,kF.o.store 23 (.slice A az.length c),⟨rfl,⟨⟨none,0,rfl,bw.nil _ _ _ _ _⟩,⟨none,0,rfl,bw.nil _ _ _ _ _⟩,⟨A,c,rfl,(HO.o.keep kS (λx hx=> .inr (λcs hr=>by have hx:=List.mem_singleton.1 hx;subst hx;exact Row.fI kF.o hr (by decide) rfl))).at_ mE⟩⟩⟩,iz.o.far kS iV⟩

theorem jz.far {w w' :au}{p:Pk}{sw sc sf:Value}{b:Nat}{cs:Array Value}(h:jz w p sw sc sf)(_:b < w'.heap.size\/True)(hr:Row w b 29 cs)(hk:ae w w' [b]):jz w' p sw sc sf:=by
 obtain⟨⟨A,a,e1,h1⟩,⟨B,b',e2,h2⟩,⟨C,c,e3,h3⟩⟩:=h;exact⟨⟨A,a,e1,h1.box hk hr (by decide)⟩,⟨B,b',e2,h2.box hk hr (by decide)⟩,⟨C,c,e3,h3.box hk hr (by decide)⟩⟩
theorem yP (w:au)(base r:Nat)(k:Int)(f:Nat)(l:aG)(h:Rd w base r l)(hk:k=12\/k=13\/k=14):
  Calls prog 50 #[.agg #[.pointer (some ⟨r,0,none⟩)],.int .i64 f] w (ni w base r (kg k f l)):=by
 rw[tB hk];clear hk;have BV:=zh h.lt;obtain⟨W0,aV⟩:∃W0,w.alloc (.cells #[.pointer (some ⟨r,0,none⟩)] 74)=W0:=⟨_,rfl⟩;obtain⟨W1,hW1⟩:∃W1,W0.alloc (.cells eM 29)=W1:=⟨_,rfl⟩;have k0:ae w W0 []:=by rw[<-aV];exact ae.alloc _ _
 have k1:ae W0 W1 []:=by rw[<-hW1];exact ae.alloc _ _
 have s0:W0.heap.size=w.heap.size+1:=by rw[<-aV];simp
 have s1:W1.heap.size=w.heap.size+2:=by rw[<-hW1];simp[s0]
 have HB:=zh (show Row W1 w.heap.size 74 #[.pointer (some ⟨r,0,none⟩)]from(show Row W0 w.heap.size 74 #[.pointer (some ⟨r,0,none⟩)]by rw[<-aV];exact Row.new _ _ _).keeps k1);have HR:=zh (show Row W1 W0.heap.size 29 eM by rw[<-hW1];exact Row.new _ _ _);have HK:=zh (k0.ah k1);have HS:=zh (And.intro s0 s1);have iz:=zh ((h.keep k0 (by simp)).keep k1 (by simp));have c0:=HB.o.cell 0;simp only[cg,bU]at c0;clear k0 k1 s0 s1 h
 go_enter func50,ntmps50
 go_wp2_with (refine aQ rfl (.tmp 4) (.tmp 5) rfl eM eM W0 hW1.symm (by kernel_rfl) rfl (by simp[Value.oneCell']) rfl rfl ?_;intro w5 iy)
 refine zh ?_;have q9:Row w5 W0.heap.size 29 eM:=by rw[<-iy];exact Row.new _ _ _
 have e5:w5=W1:=by rw[<-iy];exact hW1
 have HQ:=zh q9;subst e5;clear aV hW1 q9 iy c0
 go_wp2_with fail
 obtain⟨d,hu,hd⟩:=cI;exact bD (aW (s:=4) (cs:=Ub) rfl rfl (aD HQ.o) hu hd (by kernel_rfl)) rfl ⟨HK.o.weaken (by simp),_,_,_,rfl,jz.empty rfl rfl rfl,iz.o⟩
theorem jo (w:au)(base r bx:Nat)(k f:Int)(l:aG)(i:FuncId)(h:Rd w base r l)(hl:l.length<=100000)(hr:∀(args:Array Value) (w:au),(callFunc i args).run prog w= .ok (.enter i args) w)(hb:Row w bx 110 #[.func (.func i) #[] #[]])
  (HC:∀W g (id:Int) t,r < g->t.length<=100000->Rd W base r t->Row W g 29 (qz 0 id)->Calls prog i #[.agg #[.pointer (some ⟨r,0,none⟩)],.pointer (some ⟨g,0,none⟩)] W (wC W base r g id (gM k id t))):
  Calls prog 113 #[.agg #[.pointer (some ⟨r,0,none⟩)],.int .i64 f,.pointer (some ⟨bx,0,none⟩)] w (ni w base r (iK k l)):=by
 rw[EO];have HC:=zh HC;have Kl:=zh (show bx≠r by
  rintro rfl;obtain⟨x,h1⟩:=h.row;exact Row.fI hb h1 (by decide) rfl)
 have BV:=zh h.lt;obtain⟨W0,aV⟩:∃W0,w.alloc (.cells #[.pointer (some ⟨r,0,none⟩)] 74)=W0:=⟨_,rfl⟩;obtain⟨W1,hW1⟩:∃W1,W0.alloc (.cells eM 29)=W1:=⟨_,rfl⟩;have k0:ae w W0 []:=by rw[<-aV];exact ae.alloc _ _
 have k1:ae W0 W1 []:=by rw[<-hW1];exact ae.alloc _ _
 have s0:W0.heap.size=w.heap.size+1:=by rw[<-aV];simp
 have s1:W1.heap.size=w.heap.size+2:=by rw[<-hW1];simp[s0]
 have HB:=zh (show Row W1 w.heap.size 74 #[.pointer (some ⟨r,0,none⟩)]from(show Row W0 w.heap.size 74 #[.pointer (some ⟨r,0,none⟩)]by rw[<-aV];exact Row.new _ _ _).keeps k1);have HR:=zh (show Row W1 W0.heap.size 29 eM by rw[<-hW1];exact Row.new _ _ _);have HK:=zh (k0.ah k1);have HS:=zh (And.intro s0 s1);have iz:=zh ((h.keep k0 (by simp)).keep k1 (by simp));have c0:=HB.o.cell 0;simp only[cg,bU]at c0;have HF:=zh ((hb.keeps k0).keeps k1);clear k0 k1 s0 s1 h hb
 rcases hE:jv 2 l with _ | ⟨n,t⟩
 ·have HE:=zh hE
  clear hE
  go_enter func113,ntmps113
  go_wp2_with fail
  refine(gF (k' :=2) iz.o HE.o (by omega) (by omega) rfl).mono ?_;rintro e w3 ⟨hk,rfl⟩;exact⟨rfl,(HK.o.weaken (T:= [r]) (by simp)).trans hk (λ_ hx _=>hx),rfl⟩
 ·have HE:=zh hE
  have VA:=zh (show t.length<=100000 by have:=(bJ hE).2.2;omega);clear hE
  go_enter func113,ntmps113
  go_wp2_with fail
  refine(mn iz.o HE.o).mono ?_;rintro e w3 ⟨hk,rfl,cS⟩;have fK:=zh hk;have BS:=zh cS;clear hk cS aV hW1 c0;obtain⟨W4,KK⟩:∃W4,w3.alloc (.cells eM 29)=W4:=⟨_,rfl⟩
  go_wp2_with (refine aQ rfl (.tmp 6) (.tmp 9) rfl (qz 0 (n:Nat)) eM w3 KK.symm (by kernel_rfl) rfl (by simp[Value.oneCell']) rfl rfl ?_;intro w5 iy)
  refine zh ?_;have q9:Row w5 w3.heap.size 29 (qz 0 (n:Nat)):=by rw[<-iy];exact Row.new _ _ _
  have k9:ae w3 w5 []:=by rw[<-iy];exact ae.alloc _ _
  obtain⟨G,hG⟩:∃G,w3.heap.size=G:=⟨_,rfl⟩;rw[hG]at q9 ⊢
  have Qi:=zh (show w.heap.size+2<=G by have:=fK.o.size;have:=HS.o.2;omega);have VE:=zh (show r < G by have:=Qi.o;have:=BV.o;omega);have tR:=zh (show ae W1 w5 [r]from fK.o.trans k9 (by simp));have RV:=zh (BS.o.keep k9 (by simp));have c0:=(HB.o.keep tR.o (by have:=BV.o;simp;omega)).cell 0;have f0:=(HF.o.keep tR.o (by have:=Kl.o;simpa using this)).cell 0;simp only[cg,bU]at c0 f0;have K6:=zh (HC.o w5 G (n:Nat) t VE.o VA.o RV.o q9);clear k9 KK q9 iy hG
  go_wp2_with fail
  refine K6.o.mono ?_;rintro e w6 ⟨ko,hpost⟩;have Nx:=zh ko;clear ko c0 f0
  cases hX:gM k (n:Int) t with
  | none=>
   have DN:=zh hX;rw[hX]at hpost;subst hpost;refine⟨rfl,((HK.o.weaken (T:= [r]) (by simp)).trans tR.o (λ_ hx _=>hx)).trans Nx.o (λx hx hlt=> ?_), ?_⟩
   ·have:=Qi.o
    simp at hx
    rcases hx with rfl | rfl
    ·simp
    ·omega
   ·simp only[di]
    rw[DN.o]
    trivial
  | some pt=>
   obtain⟨p,t'⟩:=pt;have DN:=zh hX;rw[hX]at hpost;obtain⟨A1,n1,c1,A2,n2,c2,A3,n3,c3,rfl,hrow,⟨hp,hpl⟩,cS⟩:=hpost;have HP:=zh (And.intro hp hpl);have My:=zh hrow;have RU:=zh cS;have Qg:=zh (show Row w6 W0.heap.size 29 eM from(HR.o.keep tR.o (by have:=BV.o;have:=HS.o;simp;omega)).keep Nx.o (by have:=Qi.o;have:=BV.o;have:=HS.o;simp;omega));clear hX hp hpl hrow cS
   go_upto_region 3 with fail
   refine av ax _ 1 rfl (by kernel_rfl) (by kernel_rfl) (λ_=>ae.refl _ _) (λ_ _ _ h k=>h.trans k (by simp)) ?_;simp only[dc,dg,dF,dK];refine lw 29 (.tmp 6) (G) ((Qn 0 (n:Nat) (.slice A1 n1 c1) (.slice A2 n2 c2) (.slice A3 n3 c3))) underlying29 (λW hW=>aD (My.o.keeps hW)) ?_;refine aq (λW vals hW ag=> ?_);simp only[af,aw]at ag
   try simp only[ai]at ag
   simp only[af,fill,Act.put,bo,bn,bh];clear ag;refine wpList_store_row rfl (.tmp 5) (.tmp 13) 29 rfl W0.heap.size (tf 0 (n:Nat) (.slice A1 n1 c1) (.slice A2 n2 c2) (.slice A3 n3 c3)) eM (Qg.o.keeps hW) (by kernel_rfl) rfl (by simp[Value.oneCell']) rfl rfl ?_;intro w7 r7 k7;have ku:=zh r7;have Pp:=zh (show jz w7 p (.slice A1 n1 c1) (.slice A2 n2 c2) (.slice A3 n3 c3)from(HP.o.2.keeps hW).far (.inr trivial) (Qg.o.keeps hW) k7);have kr:=zh ((RU.o.keep hW (by simp)).far k7 (λx hx=>by have:=BV.o;have:=HS.o;simp at hx;omega));have iN:=zh (show ae w w7 [r]from((((HK.o.weaken (T:= [r]) (by simp)).trans tR.o (λ_ hx _=>hx)).trans Nx.o (λx hx hlt=>by
    have:=Qi.o;simp at hx
    rcases hx with rfl | rfl
    ·simp
    ·omega)).trans hW (by simp)).trans k7 (λx hx hlt=>by have:=HS.o;simp at hx;omega))
   clear r7 k7 hW
   go_wp2_with fail
   obtain⟨d,hu,hd⟩:=cI;refine bD (aW (s:=5) (cs:=(Qn 0 (n:Nat) (.slice A1 n1 c1) (.slice A2 n2 c2) (.slice A3 n3 c3))) rfl rfl (aD ku.o) hu hd (by kernel_rfl)) rfl ⟨iN.o, ?_⟩;simp only[di];rw[DN.o];refine⟨.slice A1 n1 c1,.slice A2 n2 c2,.slice A3 n3 c3, ?_,Pp.o,kr.o⟩;rw[HP.o.1];rfl
end Go.Proofs.YtahbikfbjenfpaaGreatDoor
