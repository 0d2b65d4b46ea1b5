/- Package packet: within, qos, said, bits. A region of a fixed order, met as one that draws its order: each operation once, at any world that keeps what lay. Package packet, plain: bytes are no two packets', nor begin with another one's. -/
import Derived.Test.YtahbikfbjenfpaaGreatDoorPa4
import Derived.Test.YtahbikfbjenfpaaGreatDoorPa11
import Derived.Test.YtahbikfbjenfpaaGreatDoorPa2
import Derived.Test.YtahbikfbjenfpaaGreatDoorPa1
set_option maxHeartbeats 2000000
set_option maxRecDepth 100000
namespace Go.Proofs.YtahbikfbjenfpaaGreatDoor
open Tryz Go.RowKit

theorem xM (w:au)(s:aG)(hs:s.length<=50000)(hm:lG w):Calls prog 64 #[.string ⟨s.toArray⟩] w (aJ w (cD s)):=
 callsIn_wide.1 (Cq 4 (by omega) w s hs hm)
theorem jn (n a b:Int)(w:au):Calls prog 52 #[.int .i64 n,.int .i64 a,.int .i64 b] w (aJ w (dz n a b)):=by
 by_cases h1:a<=n
 ·by_cases h2:n<=b
  ·have HE:=zh (show dz n a b=true by unfold dz;simp[h1,h2])
   go_enter func52,ntmps52
   go_wp2_with fail
   go_ret;exact⟨by rw[HE.o];simp,ae.refl _ _⟩
  ·have HE:=zh (show dz n a b=false by unfold dz;simp[h2])
   go_enter func52,ntmps52
   go_wp2_with fail
   go_ret;exact⟨by rw[HE.o];simp,ae.refl _ _⟩
 ·have HE:=zh (show dz n a b=false by unfold dz;simp[h1])
  go_enter func52,ntmps52
  go_wp2_with fail
  go_ret;exact⟨by rw[HE.o];simp,ae.refl _ _⟩
theorem pY (n:Int)(w:au):Calls prog 65 #[.int .i64 n] w (aJ w (dz n 0 2)):=by
 go_enter func65,ntmps65
 go_wp2_with fail
 refine(jn n 0 2 w).mono ?_;rintro e w1 ⟨rfl,hk⟩;have HK:=zh hk;clear hk
 go_wp2_with fail
 go_ret;exact⟨rfl,HK.o⟩
theorem vK (s:aG)(n:Nat)(w:au)(hs:s.length<=60000):Calls prog 127 #[.string ⟨s.toArray⟩,.int .i64 (n:Int)] w (aJ w (dW s n)):=by
 obtain⟨S,hS⟩:∃S:ByteArray,(⟨s.toArray⟩:ByteArray)=S:=⟨_,rfl⟩;have hsz:S.size=s.length:=by rw[<-hS];rfl
 have HS:=zh hS;rw[hS];clear hS
 by_cases h:s.length<=n
 ·have HT:=zh (show dW s n=fB s by unfold dW;simp[h])
  have hL:(s.length:Int)<=(n:Int):=by omega
  clear h
  go_enter func127,ntmps127
  go_wp2_with fail
  rw[<-HS.o];refine(uZ w s hs).mono ?_;rintro e w1 ⟨rfl,hk⟩;rw[HS.o];have HK:=zh hk;clear hk
  cases hg:fB s with
  | true=>
   have hc:oU s=0:=by unfold oU;rw[hg];rfl
   rw[hc];rw[hg]at HT;clear hg
   go_wp2_with fail
   go_ret;exact⟨by rw[HT.o];rfl,HK.o⟩
  | false=>
   have hc:oU s=220:=by unfold oU;rw[hg];rfl
   rw[hc];rw[hg]at HT;clear hg
   go_wp2_with fail
   go_ret;exact⟨by rw[HT.o];rfl,HK.o⟩
 ·have HT:=zh (show dW s n=false by unfold dW;simp;omega)
  have hL:¬(s.length:Int)<=(n:Int):=by omega
  clear h
  go_enter func127,ntmps127
  go_wp2_with fail
  go_ret;exact⟨by rw[HT.o];simp,ae.refl _ _⟩
def H0 (x:Bool):List Value:= [.bool x]
/-- The sum of the numbers whose truths are so. -/
def fP:List Nat->List Bool->Nat
 | n::ns,t::ts=>g_ t n+fP ns ts
 | _,_=>0
theorem uw:∀(ns:List Nat) (ts:List Bool) (j:Nat) (hn:j < ns.length) (ht:j < ts.length),fP (ns.take (j+1)) (ts.take (j+1))=fP (ns.take j) (ts.take j)+g_ ts[j] ns[j]
 | n::ns,t::ts,0,_,_=>by simp[fP]
 | n::ns,t::ts,j+1,hn,ht=>by
  have:=uw ns ts j (by simpa using hn) (by simpa using ht);simp only[dc,fP,uR]at this ⊢
  omega
 | [],_,_,hn,_=>by simp at hn
 | _::_, [],_,_,ht=>by simp at ht
theorem qf:∀(ns:List Nat) (ts:List Bool),fP ns ts<=ns.sum
 | n::ns,t::ts=>by
  have:=qf ns ts;simp only[fP,List.sum_cons];have:g_ t n<=n:=by unfold g_;cases t <;> simp
  omega
 | [],_=>by simp[fP]
 | _::_, []=>by simp[fP]
theorem vQ:∀{ns:List Nat} {n:Nat},n∈ns->n<=ns.sum
 | m::ns,n,h=>by
  rw[List.sum_cons]
  rcases List.mem_cons.1 h with rfl | h
  ·omega
  ·have:=vQ h
   omega
theorem Am (ns:List Nat)(j:Nat):(ns.take j).sum<=ns.sum:=by
 conv=>rhs;rw[<-List.take_append_drop j ns]
 rw[List.sum_append];omega
theorem uj (w:au)(A B:Option Addr)(c d bx:Nat)(ns:List Nat)(ts:List Bool)(hb:Row w bx 26 #[.slice B ns.length d])(h1:bw w 4 1 H0 A ts)(h2:bw w 3 1 jJ B (ns.map λn:Nat=>(n:Int)))(hl:ts.length=ns.length)(hs:ns.sum<=1000000)(hle:ns.length<=1000):
  Calls prog 160 #[.slice A ts.length c,.pointer (some ⟨bx,0,none⟩)] w λe w' =>e= .returned (.int .i64 (fP ns ts:Nat))/\ae w w' []:=by
 have HH:=zh (And.intro h1 (And.intro h2 hb));have HL:=zh (And.intro hl hs);have HB:=zh (λj=>cH (qf (ns.take j) (ts.take j)) (Am ns j));clear h1 h2 hb hs;rw[hl];clear hl
 go_enter func160,ntmps160
 go_wp2_with fail
 go_loopw [4,9] (λv i wr=>∃j:Nat,j<=ns.length/\i= .int .i64 j/\v= .int .i64 (fP (ns.take j) (ts.take j):Nat)/\Hid (ae w wr [])) (λ_ i _=>ns.length - (intOf i).toNat)
 case atStart=>exact⟨0,by omega,rfl,by simp[fP],zh (ae.refl _ _)⟩
 case round=>
  obtain⟨j,hj,rfl,rfl,HR⟩:=hrel
  by_cases hjl:j < ns.length
  ·have hjt:j < ts.length:=by have:=HL.o.1;omega
   obtain⟨b1,o1,cs1,rfl,hr1,hc1⟩:=HH.o.1 (by omega);obtain⟨b2,o2,Nl,rfl,hr2,gO⟩:=HH.o.2.1 (by simp;omega);have HT:=zh (uw ns ts j hjl hjt);have UD:=HB.o j;have hbs:=HL.o.2;have m0:=(HH.o.2.2.keeps HR.o).cell 0;have m1:=((hr1.keeps HR.o).cell (o1+j*1+0)).trans (hc1 j hjt 0 (by omega));have m2:=((hr2.keeps HR.o).cell (o2+j*1+0)).trans (gO j (by simpa using hjl) 0 (by omega));simp only[jJ,H0,bU,cg,iO,fj,List.getElem_map]at m0 m1 m2;have hn:ns[j]<=1000000:=cH (vQ (fS hjl)) HL.o.2;clear hr1 hr2 hc1 gO;obtain⟨S,hS⟩:∃S,fP (ns.take j) (ts.take j)=S:=⟨_,rfl⟩;rw[hS]at UD HT ⊢
   clear hS;obtain⟨N,hN⟩:∃N,ns[j]=N:=⟨_,rfl⟩;rw[hN]at hn HT m2;clear hN;have hw:IntKind.i64.wrap ((S:Int)+(N:Int))=((S+N:Nat):Int):=(IntWalk.i64_in _ (by omega)).trans (by omega)
   cases ht:ts[j]with
   | true=>
    rw[ht]at m1 HT;clear ht
    go_wp2_with fail
    exact⟨⟨j+1,by omega,by go_num,by rw[HT.o];rfl,HR⟩,by simp[intOf];omega⟩
   | false=>
    rw[ht]at m1 HT;clear ht
    go_wp2_with fail
    exact⟨⟨j+1,by omega,by go_num,by rw[HT.o];rfl,HR⟩,by simp[intOf];omega⟩
  ·obtain rfl:j=ns.length:=by omega
   have HE:=zh (show fP (ns.take ns.length) (ts.take ns.length)=fP ns ts by rw[eQ,<-HL.o.1,eQ]);rw[HE.o]
   go_wp2_with fail
   go_ret;exact⟨rfl,HR.o⟩
theorem vO (w:au)(A:Option Addr)(n c:Nat):Calls prog 135 #[.slice A n c] w λe w' =>e= .returned (.func (.func 160) #[] #[.pointer (some ⟨w.heap.size,0,none⟩)])/\w' =w.alloc (.cells #[.slice A n c] 26):=by
 go_enter func135,ntmps135
 go_wp2
 go_ret;exact⟨rfl,rfl⟩
theorem bw.y9 {α:Type}{w:au}{e:TypeId}{k:Nat}{f:α->List Value}(E:Ch k f){b:Nat}{l:List α}{cs:Array Value}(h:Row w b e cs)(hc:cs.toList=l.flatMap f):bw w e k f (some ⟨b,0,none⟩) l:=λ_=>⟨b,0,cs,rfl,h,λi hi j hj=>by
 rw[iP,<-uS,hc,pJ E hi hj]⟩
theorem BA:Ch 1 H0:=⟨by omega,λ_=>rfl,λp u hu=>by obtain rfl:=List.mem_singleton.1 hu;rfl⟩
/-- A function that sums these numbers. -/
def IV (w:au)(ns:List Nat)(v:Value):Prop:=∃bx b,v= .func (.func 160) #[] #[.pointer (some ⟨bx,0,none⟩)]/\Row w bx 26 #[.slice (some ⟨b,0,none⟩) ns.length ns.length]/\bw w 3 1 jJ (some ⟨b,0,none⟩) (ns.map λn:Nat=>(n:Int))
theorem bQ (p:Pk)(sw sc sf:Value)(w:au)(hq:0<=p.wq/\p.wq<=3):Calls prog 130 #[eO p sw sc sf] w λe w' =>e= .returned (.int .i64 (cM p:Nat))/\ae w w' []:=by
 have HP:=zh (show((cM p:Nat):Int)=(fP [128,64,32,4,2] [p.hu,p.hp,p.wr,p.hw,p.cl]:Nat)+8*p.wq by
  unfold cM;simp only[fP];omega)
 have HB:=zh (qf [128,64,32,4,2] [p.hu,p.hp,p.wr,p.hw,p.cl]);obtain⟨R,hR⟩:∃R,((cM p:Nat):Int)=R:=⟨_,rfl⟩;rw[hR]at HP ⊢
 clear hR;have HQ:=zh hq;clear hq;obtain⟨k,dup,ret,q,t,b,id,c,cl,keep,hw,wt,wb,wq,wr,hu,hp,u,pw,pr,code,wants,aF,fs⟩:=p;simp only at HP HB HQ;have RP:=zh (show IntKind.i64.wrap (8*wq)=8*wq from IntWalk.i64_in _ (by have:=HQ.o;omega));have oH:=zh (show IntKind.i64.wrap (((fP [128,64,32,4,2] [hu,hp,wr,hw,cl]:Nat):Int)+8*wq)=R from(IntWalk.i64_in _ (by have:=HQ.o;have:=HB.o;simp only[List.sum_cons,List.sum_nil]at this;omega)).trans HP.o.symm);obtain⟨W0,aV⟩:∃W,(w).alloc (.cells (zP k dup ret q t b id c cl keep hw wt wb wq wr hu hp u pw pr code sw sc sf) 29)=W:=⟨_,rfl⟩;have k0:ae (w) W0 []:=by rw[<-aV];exact ae.alloc _ _
 have r0:Row W0 (w).heap.size 29 (zP k dup ret q t b id c cl keep hw wt wb wq wr hu hp u pw pr code sw sc sf):=by rw[<-aV];exact Row.new _ _ _
 have HR:=zh (And.intro k0 r0);clear k0 r0
 go_enter func130,ntmps130
 go_upto_region 1 with fail
 clear aV;have M0:=λ(W' :au) (hW:ae (W0) W' [])=>((HR.o.2).keeps hW).cell 0
 have M1:=λ(W' :au) (hW:ae (W0) W' [])=>((HR.o.2).keeps hW).cell 1
 have M2:=λ(W' :au) (hW:ae (W0) W' [])=>((HR.o.2).keeps hW).cell 2
 have M3:=λ(W' :au) (hW:ae (W0) W' [])=>((HR.o.2).keeps hW).cell 3
 have M4:=λ(W' :au) (hW:ae (W0) W' [])=>((HR.o.2).keeps hW).cell 4
 have M5:=λ(W' :au) (hW:ae (W0) W' [])=>((HR.o.2).keeps hW).cell 5
 have M6:=λ(W' :au) (hW:ae (W0) W' [])=>((HR.o.2).keeps hW).cell 6
 have M7:=λ(W' :au) (hW:ae (W0) W' [])=>((HR.o.2).keeps hW).cell 7
 have M8:=λ(W' :au) (hW:ae (W0) W' [])=>((HR.o.2).keeps hW).cell 8
 have M9:=λ(W' :au) (hW:ae (W0) W' [])=>((HR.o.2).keeps hW).cell 9
 have KW:=λ(W' :au) (hW:ae (W0) W' [])=>((HR.o.2).keeps hW).cell 10
 have Mr:=λ(W' :au) (hW:ae (W0) W' [])=>((HR.o.2).keeps hW).cell 11
 have Mq:=λ(W' :au) (hW:ae (W0) W' [])=>((HR.o.2).keeps hW).cell 12
 have KV:=λ(W' :au) (hW:ae (W0) W' [])=>((HR.o.2).keeps hW).cell 13
 have KU:=λ(W' :au) (hW:ae (W0) W' [])=>((HR.o.2).keeps hW).cell 14
 have KT:=λ(W' :au) (hW:ae (W0) W' [])=>((HR.o.2).keeps hW).cell 15
 have KS:=λ(W' :au) (hW:ae (W0) W' [])=>((HR.o.2).keeps hW).cell 16
 have Mp:=λ(W' :au) (hW:ae (W0) W' [])=>((HR.o.2).keeps hW).cell 17
 have Mn:=λ(W' :au) (hW:ae (W0) W' [])=>((HR.o.2).keeps hW).cell 18
 have I3:=λ(W' :au) (hW:ae (W0) W' [])=>((HR.o.2).keeps hW).cell 19
 have I2:=λ(W' :au) (hW:ae (W0) W' [])=>((HR.o.2).keeps hW).cell 20
 have Is:=λ(W' :au) (hW:ae (W0) W' [])=>((HR.o.2).keeps hW).cell 21
 have I0:=λ(W' :au) (hW:ae (W0) W' [])=>((HR.o.2).keeps hW).cell 22
 have Kh:=λ(W' :au) (hW:ae (W0) W' [])=>((HR.o.2).keeps hW).cell 23
 simp only[cg,bU,fe]at M0 M1 M2 M3 M4 M5 M6 M7 M8 M9 KW Mr Mq KV KU KT KS Mp Mn I3 I2 Is I0 Kh;have HK:=zh HR.o.1;clear HR;refine cE ax _ 20 (by kernel_rfl) rfl (by kernel_rfl) (λ_=>ae.refl _ _) (λ_ _ _ h k=>h.trans k (by simp)) (ae.drew _) ?_;simp only[dc,dg,dF,dK];refine bH (λv W' =>∃b,v= .slice (some ⟨b,0,none⟩) 5 5/\Row W' b 3 #[.int .i64 128,.int .i64 64,.int .i64 32,.int .i64 4,.int .i64 2]) (λW vals hW ag φ' hφ=> ?_) ?_
 ·simp only[knows]at ag
  try simp only[ai]at ag
  clear ag;refine⟨?_⟩;simp only[fill];go_simp;exact⟨ae.alloc _ _,hφ.o _ _ ⟨_,rfl,Row.new _ _ _⟩⟩
 simp only[af];refine bH (λv W' =>IV W' [128,64,32,4,2] v) (λW vals hW ag φ' hφ=> ?_) ?_
 ·simp only[knows]at ag
  try simp only[ai]at ag
  obtain⟨W1,q0,q1,b,hv,rB⟩:=ag (by decide);have zF:=zh (rB.keeps q1);clear q0 q1 rB ag;refine⟨?_⟩;simp only[fill];go_simp
  (refine aC ?_;exact(vO W (some ⟨b,0,none⟩) 5 5).mono (by rintro e w3 ⟨rfl,rfl⟩;exact⟨_,rfl,ae.alloc _ _,hφ.o _ _ ⟨_,b,rfl,Row.new _ _ _,bw.y9 p_ (zF.o.alloc _) rfl⟩⟩))
 simp only[af];refine ls ?_;simp only[af];apply ak
 ·intro W vals hW ag
  simp only[knows]at ag
  try simp only[ai]at ag
  clear ag;have m0:=KT W hW;refine⟨?_⟩;simp only[fill];go_simp
  first | exact⟨ae.refl _ _,rfl⟩ | exact⟨ae.alloc _ _,rfl⟩
 simp only[af];refine ls ?_;simp only[af];apply ak
 ·intro W vals hW ag
  simp only[knows]at ag
  try simp only[ai]at ag
  clear ag;have m0:=KS W hW;refine⟨?_⟩;simp only[fill];go_simp
  first | exact⟨ae.refl _ _,rfl⟩ | exact⟨ae.alloc _ _,rfl⟩
 iterate 2
  simp only[af];refine ls ?_
 simp only[af];apply ak
 ·intro W vals hW ag
  simp only[knows]at ag
  try simp only[ai]at ag
  clear ag;have m0:=KU W hW;refine⟨?_⟩;simp only[fill];go_simp
  first | exact⟨ae.refl _ _,rfl⟩ | exact⟨ae.alloc _ _,rfl⟩
 simp only[af];refine ls ?_;simp only[af];apply ak
 ·intro W vals hW ag
  simp only[knows]at ag
  try simp only[ai]at ag
  clear ag;have m0:=KW W hW;refine⟨?_⟩;simp only[fill];go_simp
  first | exact⟨ae.refl _ _,rfl⟩ | exact⟨ae.alloc _ _,rfl⟩
 simp only[af];refine ls ?_;simp only[af];apply ak
 ·intro W vals hW ag
  simp only[knows]at ag
  try simp only[ai]at ag
  clear ag;have m0:=M8 W hW;refine⟨?_⟩;simp only[fill];go_simp
  first | exact⟨ae.refl _ _,rfl⟩ | exact⟨ae.alloc _ _,rfl⟩
 simp only[af];refine bH (λv W' =>∃b,v= .slice (some ⟨b,0,none⟩) 5 5/\Row W' b 4 #[.bool hu,.bool hp,.bool wr,.bool hw,.bool cl]) (λW vals hW ag φ' hφ=> ?_) ?_
 ·simp only[knows]at ag
  try simp only[ai]at ag
  clear ag;refine⟨?_⟩;simp only[fill];go_simp;exact⟨ae.alloc _ _,hφ.o _ _ ⟨_,rfl,Row.new _ _ _⟩⟩
 simp only[af];apply ak
 ·intro W vals hW ag
  simp only[knows]at ag
  try simp only[ai]at ag
  obtain⟨⟨W1,q0,q1,b,hv,rB⟩,⟨W2,q2,q3,bx,b2,NZ,hr2,hl2⟩⟩:=And.intro (ag.1 (by decide)) (ag.2.1 (by decide));have zF:=zh (rB.keeps q1);have HF:=zh (And.intro (hr2.keeps q3) (hl2.keeps q3));clear q0 q1 rB ag q2 q3 hr2 hl2;refine⟨?_⟩;simp only[fill];go_simp;refine aC ?_;exact(uj W (some ⟨b,0,none⟩) (some ⟨b2,0,none⟩) 5 5 bx [128,64,32,4,2] [hu,hp,wr,hw,cl] HF.o.1 (bw.y9 BA zF.o rfl) HF.o.2 rfl (by decide) (by decide)).mono (by rintro e w3 ⟨rfl,hk⟩;exact⟨_,rfl,hk,rfl⟩)
 iterate 2
  simp only[af];refine ls ?_
 simp only[af];apply ak
 ·intro W vals hW ag
  simp only[knows]at ag
  try simp only[ai]at ag
  clear ag;have m0:=KV W hW;refine⟨?_⟩;simp only[fill];go_simp
  first | exact⟨ae.refl _ _,rfl⟩ | exact⟨ae.alloc _ _,rfl⟩
 simp only[af];apply ak
 ·intro W vals hW ag
  simp only[knows]at ag
  try simp only[ai]at ag
  clear ag;have m0:=RP.o;refine⟨?_⟩;simp only[fill];go_simp
  first | exact⟨ae.refl _ _,rfl⟩ | exact⟨ae.alloc _ _,rfl⟩
 simp only[af];apply ak
 ·intro W vals hW ag
  simp only[knows]at ag
  try simp only[ai]at ag
  clear ag;have m0:=oH.o;refine⟨?_⟩;simp only[fill];go_simp
  first | exact⟨ae.refl _ _,rfl⟩ | exact⟨ae.alloc _ _,rfl⟩
 simp only[af];refine aq (λW vals hW ag=> ?_);simp only[aw]at ag
 try simp only[ai]at ag
 simp only[fill,Act.put,bo,bn,bh]
 go_wp2_with fail
 go_ret;exact⟨rfl,HK.o.ah hW⟩
/-- A publish's flags. -/
theorem CA (p:Pk)(hq:0<=p.q):((jq p:Nat):Int)=(fP [8,1] [p.dup,p.ret]:Nat)+2*p.q:=by
 unfold jq;simp only[fP];omega
theorem yT (p:Pk)(sw sc sf:Value)(w:au)(hq:0<=p.q/\p.q<=3):Calls prog 134 #[eO p sw sc sf] w λe w' =>e= .returned (.int .i64 (jq p:Nat))/\ae w w' []:=by
 have HP:=zh (CA p hq.1);have HB:=zh (qf [8,1] [p.dup,p.ret]);obtain⟨R,hR⟩:∃R,((jq p:Nat):Int)=R:=⟨_,rfl⟩;rw[hR]at HP ⊢
 clear hR;have HQ:=zh hq;clear hq;obtain⟨k,dup,ret,q,t,b,id,c,cl,keep,hw,wt,wb,wq,wr,hu,hp,u,pw,pr,code,wants,aF,fs⟩:=p;simp only at HP HB HQ;have RP:=zh (show IntKind.i64.wrap (2*q)=2*q from IntWalk.i64_in _ (by have:=HQ.o;omega));have oH:=zh (show IntKind.i64.wrap (((fP [8,1] [dup,ret]:Nat):Int)+2*q)=R from(IntWalk.i64_in _ (by have:=HQ.o;have:=HB.o;simp only[List.sum_cons,List.sum_nil]at this;omega)).trans HP.o.symm);obtain⟨W0,aV⟩:∃W,(w).alloc (.cells (zP k dup ret q t b id c cl keep hw wt wb wq wr hu hp u pw pr code sw sc sf) 29)=W:=⟨_,rfl⟩;have k0:ae (w) W0 []:=by rw[<-aV];exact ae.alloc _ _
 have r0:Row W0 (w).heap.size 29 (zP k dup ret q t b id c cl keep hw wt wb wq wr hu hp u pw pr code sw sc sf):=by rw[<-aV];exact Row.new _ _ _
 have HR:=zh (And.intro k0 r0);clear k0 r0
 go_enter func134,ntmps134
 go_upto_region 1 with fail
 clear aV;have M0:=λ(W' :au) (hW:ae (W0) W' [])=>((HR.o.2).keeps hW).cell 0
 have M1:=λ(W' :au) (hW:ae (W0) W' [])=>((HR.o.2).keeps hW).cell 1
 have M2:=λ(W' :au) (hW:ae (W0) W' [])=>((HR.o.2).keeps hW).cell 2
 have M3:=λ(W' :au) (hW:ae (W0) W' [])=>((HR.o.2).keeps hW).cell 3
 have M4:=λ(W' :au) (hW:ae (W0) W' [])=>((HR.o.2).keeps hW).cell 4
 have M5:=λ(W' :au) (hW:ae (W0) W' [])=>((HR.o.2).keeps hW).cell 5
 have M6:=λ(W' :au) (hW:ae (W0) W' [])=>((HR.o.2).keeps hW).cell 6
 have M7:=λ(W' :au) (hW:ae (W0) W' [])=>((HR.o.2).keeps hW).cell 7
 have M8:=λ(W' :au) (hW:ae (W0) W' [])=>((HR.o.2).keeps hW).cell 8
 have M9:=λ(W' :au) (hW:ae (W0) W' [])=>((HR.o.2).keeps hW).cell 9
 have KW:=λ(W' :au) (hW:ae (W0) W' [])=>((HR.o.2).keeps hW).cell 10
 have Mr:=λ(W' :au) (hW:ae (W0) W' [])=>((HR.o.2).keeps hW).cell 11
 have Mq:=λ(W' :au) (hW:ae (W0) W' [])=>((HR.o.2).keeps hW).cell 12
 have KV:=λ(W' :au) (hW:ae (W0) W' [])=>((HR.o.2).keeps hW).cell 13
 have KU:=λ(W' :au) (hW:ae (W0) W' [])=>((HR.o.2).keeps hW).cell 14
 have KT:=λ(W' :au) (hW:ae (W0) W' [])=>((HR.o.2).keeps hW).cell 15
 have KS:=λ(W' :au) (hW:ae (W0) W' [])=>((HR.o.2).keeps hW).cell 16
 have Mp:=λ(W' :au) (hW:ae (W0) W' [])=>((HR.o.2).keeps hW).cell 17
 have Mn:=λ(W' :au) (hW:ae (W0) W' [])=>((HR.o.2).keeps hW).cell 18
 have I3:=λ(W' :au) (hW:ae (W0) W' [])=>((HR.o.2).keeps hW).cell 19
 have I2:=λ(W' :au) (hW:ae (W0) W' [])=>((HR.o.2).keeps hW).cell 20
 have Is:=λ(W' :au) (hW:ae (W0) W' [])=>((HR.o.2).keeps hW).cell 21
 have I0:=λ(W' :au) (hW:ae (W0) W' [])=>((HR.o.2).keeps hW).cell 22
 have Kh:=λ(W' :au) (hW:ae (W0) W' [])=>((HR.o.2).keeps hW).cell 23
 simp only[cg,bU,fe]at M0 M1 M2 M3 M4 M5 M6 M7 M8 M9 KW Mr Mq KV KU KT KS Mp Mn I3 I2 Is I0 Kh;have HK:=zh HR.o.1;clear HR;refine cE ax _ 12 (by kernel_rfl) rfl (by kernel_rfl) (λ_=>ae.refl _ _) (λ_ _ _ h k=>h.trans k (by simp)) (ae.drew _) ?_;simp only[dc,dg,dF,dK];refine bH (λv W' =>∃b,v= .slice (some ⟨b,0,none⟩) 2 2/\Row W' b 3 #[.int .i64 8,.int .i64 1]) (λW vals hW ag φ' hφ=> ?_) ?_
 ·simp only[knows]at ag
  try simp only[ai]at ag
  clear ag;refine⟨?_⟩;simp only[fill];go_simp;exact⟨ae.alloc _ _,hφ.o _ _ ⟨_,rfl,Row.new _ _ _⟩⟩
 simp only[af];refine bH (λv W' =>IV W' [8,1] v) (λW vals hW ag φ' hφ=> ?_) ?_
 ·simp only[knows]at ag
  try simp only[ai]at ag
  obtain⟨W1,q0,q1,b,hv,rB⟩:=ag (by decide);have zF:=zh (rB.keeps q1);clear q0 q1 rB ag;refine⟨?_⟩;simp only[fill];go_simp
  (refine aC ?_;exact(vO W (some ⟨b,0,none⟩) 2 2).mono (by rintro e w3 ⟨rfl,rfl⟩;exact⟨_,rfl,ae.alloc _ _,hφ.o _ _ ⟨_,b,rfl,Row.new _ _ _,bw.y9 p_ (zF.o.alloc _) rfl⟩⟩))
 simp only[af];refine ls ?_;simp only[af];apply ak
 ·intro W vals hW ag
  simp only[knows]at ag
  try simp only[ai]at ag
  clear ag;have m0:=M1 W hW;refine⟨?_⟩;simp only[fill];go_simp
  first | exact⟨ae.refl _ _,rfl⟩ | exact⟨ae.alloc _ _,rfl⟩
 simp only[af];refine ls ?_;simp only[af];apply ak
 ·intro W vals hW ag
  simp only[knows]at ag
  try simp only[ai]at ag
  clear ag;have m0:=M2 W hW;refine⟨?_⟩;simp only[fill];go_simp
  first | exact⟨ae.refl _ _,rfl⟩ | exact⟨ae.alloc _ _,rfl⟩
 simp only[af];refine bH (λv W' =>∃b,v= .slice (some ⟨b,0,none⟩) 2 2/\Row W' b 4 #[.bool dup,.bool ret]) (λW vals hW ag φ' hφ=> ?_) ?_
 ·simp only[knows]at ag
  try simp only[ai]at ag
  clear ag;refine⟨?_⟩;simp only[fill];go_simp;exact⟨ae.alloc _ _,hφ.o _ _ ⟨_,rfl,Row.new _ _ _⟩⟩
 simp only[af];apply ak
 ·intro W vals hW ag
  simp only[knows]at ag
  try simp only[ai]at ag
  obtain⟨⟨W1,q0,q1,b,hv,rB⟩,⟨W2,q2,q3,bx,b2,NZ,hr2,hl2⟩⟩:=And.intro (ag.1 (by decide)) (ag.2.1 (by decide));have zF:=zh (rB.keeps q1);have HF:=zh (And.intro (hr2.keeps q3) (hl2.keeps q3));clear q0 q1 rB ag q2 q3 hr2 hl2;refine⟨?_⟩;simp only[fill];go_simp;refine aC ?_;exact(uj W (some ⟨b,0,none⟩) (some ⟨b2,0,none⟩) 2 2 bx [8,1] [dup,ret] HF.o.1 (bw.y9 BA zF.o rfl) HF.o.2 rfl (by decide) (by decide)).mono (by rintro e w3 ⟨rfl,hk⟩;exact⟨_,rfl,hk,rfl⟩)
 simp only[af];refine ls ?_;simp only[af];apply ak
 ·intro W vals hW ag
  simp only[knows]at ag
  try simp only[ai]at ag
  clear ag;have m0:=M3 W hW;refine⟨?_⟩;simp only[fill];go_simp
  first | exact⟨ae.refl _ _,rfl⟩ | exact⟨ae.alloc _ _,rfl⟩
 simp only[af];apply ak
 ·intro W vals hW ag
  simp only[knows]at ag
  try simp only[ai]at ag
  clear ag;have m0:=RP.o;refine⟨?_⟩;simp only[fill];go_simp
  first | exact⟨ae.refl _ _,rfl⟩ | exact⟨ae.alloc _ _,rfl⟩
 simp only[af];apply ak
 ·intro W vals hW ag
  simp only[knows]at ag
  try simp only[ai]at ag
  clear ag;have m0:=oH.o;refine⟨?_⟩;simp only[fill];go_simp
  first | exact⟨ae.refl _ _,rfl⟩ | exact⟨ae.alloc _ _,rfl⟩
 simp only[af];refine aq (λW vals hW ag=> ?_);simp only[aw]at ag
 try simp only[ai]at ag
 simp only[fill,Act.put,bo,bn,bh]
 go_wp2_with fail
 go_ret;exact⟨rfl,HK.o.ah hW⟩

section
variable {P:Program}
/-- The order as it is written is one of those that may be drawn. -/
def NQ (ops:Array Oper):Bool:=decide (Region.linearise.go .any ops ops.size 0 (Array.replicate ops.size false) []=List.range ops.size)
theorem av {id:Nat}{Q:Exit->Act->au->Prop}{a:Act}{w:au}{l:List Oper}(R:au->au->Prop)(n n0:Nat)(hn:a.tmps.size=n)
  (hB:(f_ n l.toArray && Region.sinkB .any l.toArray n0 && Region.chainB .any l.toArray n0 && decide (n0 < l.length) && Region.seqB .any l.toArray (l.drop n0).length n0 ((Array.range l.toArray.size).map λk=>decide (k < n0)) && decide (cN ((Array.range l.toArray.size).map λk=>decide (k < n0))=(l.drop n0).length))=true)
  (hL:NQ l.toArray=true)
  (zj:∀x,R x x) (htr:∀x y z,R x y->R y z->R x z)
  (h:ba P R w l.toArray a (λenv=>∀W vals,R w W->aw R w vals W env->wpList P l.toArray Q (l.drop n0) (fill vals env a) W) (l.take n0) []):(Code.region id l.toArray false).wp P Q a w:=by
 simp only[cR,fA]at hB;obtain⟨⟨⟨⟨⟨h1,h2⟩,h3⟩,h4⟩,h5⟩,h6⟩:=hB;obtain⟨E,c,rd,φ,e0,hs,hq⟩:=kZ n0 l (by omega) h;refine wp_region ?_;rw[<-qj hL];refine wpAny_sound _ 0 _ a w (mY (w0:=w) (n0:=n0) (lt:=l.drop n0) htr zj h1 h2 h3 (by simpa using h4) (λj=>by simp) h5 h6 hn e0 (λk o ho=>hs k o (by simpa using ho)) hq _ _ _ _ ?_ (λt ht ht' => ?_) ⟨zj w,rfl,rfl,by simp,λ_ _=>rfl,λk o d ho _ hk=> ?_,λk o ho _ hk=> ?_,λk o ho hk=> ?_⟩)
 ·unfold cN
  simp
 ·simp only[oq]at ht'
  simp[ht']
 all_goals
  exfalso
  by_cases h' :k < l.length <;> simp[h']at hk
end
end Go.Proofs.YtahbikfbjenfpaaGreatDoor

namespace Go.Proofs.YtahbikfbjenfpaaGreatDoor
open Tryz Go

theorem jl {k:Int}(h:dz k 1 14=true):k=1\/k=2\/k=3\/k=8\/k=9\/k=10\/(k=12\/k=13\/k=14)\/(k=4\/k=5\/k=6\/k=7\/k=11):=by
 rw[bW]at h;omega
theorem bF {p:Pk}(h:fD p=true):dz p.k 1 14=true/\cK p=true/\aL p=p:=by
 unfold fD at h;simp only[cR,fA]at h;exact h
theorem o_ {p:Pk}(h:qo p=true):1<=p.id/\p.id<=65535:=bW.1 h
/-- What a packet that may be has, kind by kind. -/
structure Iq (p:Pk):Prop where
 c:p.c.length<=23
 keep:0<=p.keep/\p.keep<=65535
 will:p.wt.length<=200/\p.wb.length<=2000/\0<=p.wq/\p.wq<=2
 nw:p.hw=false->p.wt= []/\p.wb= []/\p.wq=0/\p.wr=false
 u:p.u.length<=200/\(p.hu=false->p.u= []/\p.hp=false)
 pw:p.pw.length<=200/\(p.hp=false->p.pw= [])
theorem nR {p:Pk}(hk:p.k=1)(h:cK p=true):Iq p:=by
 unfold cK at h;rw[aE hk]at h;simp only[cR]at h;obtain⟨h1,h2,h3,h4,h5,h6⟩:=h;have hw:(p.wt.length<=200/\p.wb.length<=2000/\0<=p.wq/\p.wq<=2)/\(p.hw=false->p.wt= []/\p.wb= []/\p.wq=0/\p.wr=false):=by
  unfold o7 at h4
  cases hw:p.hw with
  | true=>
   rw[hw,aE rfl]at h4;simp only[cR,fA]at h4;have:=Ai h4.1;have:=bW.1 h4.2.2;exact⟨⟨by omega,by omega,by omega,by omega⟩,λe=>by cases e⟩
  | false=>
   rw[hw,aj (by simp)]at h4;simp only[cR,List.isEmpty_iff,kX,Bool.not_eq_true']at h4;obtain⟨e1,e2,e3,e4⟩:=h4;exact⟨⟨by rw[e1];simp,by rw[e2];simp,by omega,by omega⟩,λ_=>⟨e1,e2,e3,e4⟩⟩
 have hu:p.u.length<=200/\(p.hu=false->p.u= []/\p.hp=false):=by
  unfold o8 at h5
  cases hu:p.hu with
  | true=>
   rw[hu,aE rfl]at h5;exact⟨xU h5,λe=>by cases e⟩
  | false=>
   rw[hu,aj (by simp)]at h5;simp only[cR,List.isEmpty_iff,Bool.not_eq_true']at h5;exact⟨by rw[h5.1];simp,λ_=>h5⟩
 have hp:p.pw.length<=200/\(p.hp=false->p.pw= []):=by
  unfold o9 at h6
  cases hp:p.hp with
  | true=>
   rw[hp,aE rfl,fA]at h6;exact⟨h6,λe=>by cases e⟩
  | false=>
   rw[hp,aj (by simp),List.isEmpty_iff]at h6;exact⟨by rw[h6];simp,λ_=>h6⟩
 exact⟨xU h1,bW.1 h3,hw.1,hw.2,hu,hp⟩
theorem pX {p:Pk}(hk:p.k=2)(h:cK p=true):0<=p.code/\p.code<=5:=by
 unfold cK at h;rw[aj (by omega),aE hk,cR]at h;exact bW.1 h.1
theorem jN {p:Pk}(hk:p.k=3)(h:cK p=true):p.t.length<=200/\p.b.length<=2000/\(0<=p.q/\p.q<=2)/\(0<=p.id/\p.id<=65535)/\(p.q=0->p.id=0/\p.dup=false):=by
 unfold cK at h;rw[aj (by omega),aj (by omega),aE hk]at h;simp only[cR,fA]at h;obtain⟨h1,h2,h3,h4⟩:=h;have h3:=bW.1 h3;refine⟨Ai h1,h2,h3, ?_⟩
 by_cases hq:p.q=0
 ·rw[aE hq]at h4
  simp only[cR,kX,Bool.not_eq_true']at h4;exact⟨by omega,λ_=>h4⟩
 ·rw[aj hq]at h4
  have:=o_ h4;exact⟨by omega,λe=>absurd e hq⟩
theorem nS {α:Type}{l:List α}{is:α->Bool}(h:cO l is=true):1<=l.length/\l.length<=8/\∀x∈l,is x=true:=by
 unfold cO at h;simp only[cR,fA]at h;exact⟨h.1,h.2.1,List.all_eq_true.1 h.2.2⟩
theorem nP {p:Pk}(hk:p.k=8)(h:cK p=true):(1<=p.id/\p.id<=65535)/\1<=p.wants.length/\p.wants.length<=8/\∀w∈p.wants,w.1.length<=200/\0<=w.2/\w.2<=2:=by
 unfold cK at h;rw[aj (by omega),aj (by omega),aj (by omega),aE hk,cR]at h;obtain⟨h1,h2,h3⟩:=nS h.2;refine⟨o_ h.1,h1,h2,λw hw=> ?_⟩;have:=h3 w hw;rw[cR]at this;have h5:=bW.1 this.2;exact⟨vo this.1,h5.1,h5.2⟩
theorem nO {p:Pk}(hk:p.k=9)(h:cK p=true):(1<=p.id/\p.id<=65535)/\1<=p.aF.length/\p.aF.length<=8/\∀c∈p.aF,0<=c/\c<=255:=by
 unfold cK at h;rw[aj (by omega),aj (by omega),aj (by omega),aj (by omega),aE hk,cR]at h;obtain⟨h1,h2,h3⟩:=nS h.2;refine⟨o_ h.1,h1,h2,λw hw=> ?_⟩;have:=h3 w hw;rw[kW,kX,bW]at this;omega
theorem lp {p:Pk}(hk:p.k=10)(h:cK p=true):(1<=p.id/\p.id<=65535)/\1<=p.fs.length/\p.fs.length<=8/\∀f∈p.fs,f.length<=200:=by
 unfold cK at h;rw[aj (by omega),aj (by omega),aj (by omega),aj (by omega),aj (by omega),aE hk,cR]at h;obtain⟨h1,h2,h3⟩:=nS h.2;exact⟨o_ h.1,h1,h2,λw hw=>vo (h3 w hw)⟩
theorem nQ {p:Pk}(hk:p.k=4\/p.k=5\/p.k=6\/p.k=7\/p.k=11)(h:cK p=true):1<=p.id/\p.id<=65535:=by
 unfold cK at h;rw[aj (by omega),aj (by omega),aj (by omega),aj (by omega),aj (by omega),aj (by omega),aj (by omega)]at h;exact o_ h
theorem bY (b:Bool)(n:Nat):g_ b n<=n:=by cases b <;> simp[g_]
theorem C8 {p:Pk}(h:fD p=true):kM p < 16:=by
 obtain⟨_,h2,_⟩:=bF h;unfold kM
 split
 ·rename_i hk
  have:=(jN hk h2).2.2.1;unfold jq;have:=bY p.dup 8;have:=bY p.ret 1;omega
 ·split <;> omega
theorem bB (s:aG):(aO s).length=2+s.length:=by
 unfold aO;rw[bI,aP]
theorem jV (b:Bool)(l:aG):(dB b l).length<=l.length:=by cases b <;> simp[dB]
theorem jY {α:Type}{f:α->aG}{m:Nat}:∀{l:List α},(∀x∈l,(f x).length<=m)->(l.flatMap f).length<=l.length*m
 | [],_=>by simp
 | a::l,h=>by
  have h1:=h a (by simp);have h2:=jY (l:=l) (λx hx=>h x (by simp[hx]));rw[kA,bI,du,Nat.add_mul];omega
theorem qU {p:Pk}(h:fD p=true):(bg p).length<=5000:=by
 obtain⟨h1,h2,_⟩:=bF h;unfold bg
 rcases jl h1 with e | e | e | e | e | e | e | e
 ·have f:=nR e h2
  rw[aE e];simp only[bI,bB,bA,aX,aP,du,dR];have a1:=jV p.hw (aO p.wt++aO p.wb);have a2:=jV p.hu (aO p.u);have a3:=jV p.hp (aO p.pw);simp only[bI,bB]at a1 a2 a3;have:=f.c;have:=f.will;have:=f.u.1;have:=f.pw.1;omega
 ·rw[aj (by omega),aE e]
  simp[aX,aP]
 ·have f:=jN e h2
  rw[aj (by omega),aj (by omega),aE e];have a1:=jV (decide (0 < p.q)) (bA p.id);simp only[bA,aP]at a1;simp only[bI,bB,bA];omega
 ·have f:=nP e h2
  rw[aj (by omega),aj (by omega),aj (by omega),aE e,bI];have:=jY (f:=λw:aG×Int=>aO w.1++aX w.2.toNat) (m:=203) (l:=p.wants) (λw hw=>by
   have:=(f.2.2.2 w hw).1;rw[bI,bB];simp only[aX,aP];omega)
  simp only[bA,aP];omega
 ·have f:=nO e h2
  rw[aj (by omega),aj (by omega),aj (by omega),aj (by omega),aE e,bI];have:=jY (f:=λc:Int=>aX c.toNat) (m:=1) (l:=p.aF) (λw hw=>by simp[aX,aP]);simp only[bA,aP];omega
 ·have f:=lp e h2
  rw[aj (by omega),aj (by omega),aj (by omega),aj (by omega),aj (by omega),aE e,bI];have:=jY (f:=aO) (m:=202) (l:=p.fs) (λw hw=>by
   have:=f.2.2.2 w hw;rw[bB];omega)
  simp only[bA,aP];omega
 ·rw[aj (by omega),aj (by omega),aj (by omega),aj (by omega),aj (by omega),aj (by omega),aE e]
  simp
 ·rw[aj (by omega),aj (by omega),aj (by omega),aj (by omega),aj (by omega),aj (by omega),aj (by omega)]
  simp[bA,aP]
/-- What the first bytes tell. -/
theorem yO {p:Pk}(h:fD p=true)(r:aG):∃x l s,gu p++r=x::l/\x.toNat / 16=p.k.toNat/\x.toNat % 16=kM p/\gi l=some (some ((bg p).length,s))/\l.drop s=bg p++r/\l.length=s+(bg p).length+r.length/\s<=4:=by
 have hf:=C8 h;have hb:=qU h;have hk:=bW.1 (bF h).1;have hx:(jE (16*p.k.toNat+kM p)).toNat=16*p.k.toNat+kM p:=eP (by omega);refine⟨jE (16*p.k.toNat+kM p),eF (bg p).length++bg p++r,dD (bg p).length,by simp[gu],by omega,by omega, ?_, ?_, ?_,(gP _).2⟩
 ·rw[eK]
  exact GV (by omega) _
 ·rw[eK]
  exact(k_ (ed _)).2
 ·rw[bI,bI,ed]
theorem H_ {k m n:Nat}{r r' :aG}(hm:m < 256^k)(hn:n < 256^k)(h:dZ k m++r=dZ k n++r'):m=n/\r=r' :=by
 have h1:=ez hm r;rw[h,ez hn r']at h1;injection h1 with h1
 injection h1 with e1 e2
 exact⟨e1.symm,e2.symm⟩
theorem oV {a b r r' :aG}(ha:a.length < 65536)(hb:b.length < 65536)(h:aO a++r=aO b++r'):a=b/\r=r' :=by
 have h1:=rT ha r;unfold aO at h;rw[h,rT hb r']at h1;injection h1 with h1
 injection h1 with e1 e2
 exact⟨e1.symm,e2.symm⟩
theorem sI {α:Type}{f:α->aG}{P:α->Prop}(hne:∀a,f a≠ [])(hin:∀a b r r',P a->P b->f a++r=f b++r' ->a=b/\r=r'):∀{l l' :List α},(∀x∈l,P x)->(∀x∈l',P x)->l.flatMap f=l'.flatMap f->l=l'
 | [], [],_,_,_=>rfl
 | [],b::l',_,_,h=>by
  rw[List.flatMap_nil,kA]at h;have:=ek List.length h;rw[bI,dR]at this;exact absurd (List.length_eq_zero_iff.1 (by omega)) (hne b)
 | a::l, [],_,_,h=>by
  rw[List.flatMap_nil,kA]at h;have:=ek List.length h;rw[bI,dR]at this;exact absurd (List.length_eq_zero_iff.1 (by omega)) (hne a)
 | a::l,b::l',h1,h2,h=>by
  rw[kA,kA]at h;obtain⟨e1,e2⟩:=hin a b _ _ (h1 a (by simp)) (h2 b (by simp)) h;rw[e1,sI hne hin (λx hx=>h1 x (by simp[hx])) (λx hx=>h2 x (by simp[hx])) e2]
end Go.Proofs.YtahbikfbjenfpaaGreatDoor
