/- The reference of packets: Parse. -/
import Derived.Test.YtahbikfbjenfpaaGreatDoorPa25
import Derived.Test.YtahbikfbjenfpaaGreatDoorPa31
import Derived.Test.YtahbikfbjenfpaaGreatDoorPa60
import Derived.Test.YtahbikfbjenfpaaGreatDoorPa37
import Derived.Deep.CutBlock
set_option maxHeartbeats 60000000
set_option maxRecDepth 100000
namespace Go.Proofs.YtahbikfbjenfpaaGreatDoor
open Tryz Go.RowKit

theorem AB (k:Int)(w:au)(A:Option Addr)(c:Nat)(l:aG)(h:lL w w.heap.size A c l)(hl:l.length<=100000):Calls prog 45 #[.int .i64 k,.slice A l.length c] w (rm w k l):=by
 by_cases h8:k=8
 ·subst h8
  exact yJ w A c l h hl
 ·by_cases h9:k=9
  ·subst h9
   exact yL w A c l h hl
  ·exact yK k w A c l h hl ⟨h8,h9⟩
/-- What Parse answers. -/
def Ik (w:au)(l:aG)(e:Ending)(w' :au):Prop:=ae w w' []/\((∃p sw sc sf,fc l p/\e= .returned (.tuple #[eO p sw sc sf,.bool true])/\jz w' p sw sc sf)\/((∀p,¬fc l p)/\e= .returned (.tuple #[.agg cT,.bool false])))
theorem Gq {l:aG}(h:l.length < 2):∀p,¬fc l p:=by
 intro p hp
 rcases l with _ | ⟨x,_ | ⟨y,r⟩⟩
 ·have:=E_ p
  rw[hp.2]at this;simp at this
 ·obtain⟨s,_,h2,h3,_⟩:=vv hp
  simp at h2;omega
 ·simp at h
  omega
theorem Gr {x:UInt8}{l:aG}(h:∀s,1<=s->s<=l.length->gi l≠some (some (l.length - s,s))):∀p,¬fc (x::l) p:=by
 intro p hp;obtain⟨s,h1,h2,h3,_⟩:=vv hp;exact h s h3 h2 h1
/-- What is known behind the switch. -/
def uA (w W:au)(b:Nat)(K F:Nat)(l:aG)(z:Bool):Prop:=∃X,lO w W b X/\(z=true->∃p sw sc sf,Value.agg X=eO p sw sc sf/\jz W p sw sc sf/\lJ (K:Int) F l=some p)/\(z=false->lJ (K:Int) F l=none)
theorem NH {w:au}{p:Pk}{sw sc sf:Value}(h:jz w p sw sc sf):∃X,eO p sw sc sf= .agg X/\Ke X:=by
 obtain⟨⟨A,a,rfl,_⟩,⟨B,b,rfl,_⟩,⟨C,c,rfl,_⟩⟩:=h;exact⟨_,rfl,rfl,by simp[Value.oneCell']⟩
theorem jz.Hk {w w' :au}{p:Pk}{sw sc sf:Value}{b:Nat}{cs:Array Value}(h:jz w p sw sc sf)(hr:Row w b 29 cs)(hk:ae w w' [b]):jz w' p sw sc sf:=by
 obtain⟨⟨A,a,e1,h1⟩,⟨B,b,e2,h2⟩,⟨C,c,e3,h3⟩⟩:=h;exact⟨⟨A,a,e1,h1.box hk hr (by decide)⟩,⟨B,b,e2,h2.box hk hr (by decide)⟩,⟨C,c,e3,h3.box hk hr (by decide)⟩⟩
theorem Lc {K:Nat}(h1:K≠1)(h2:K≠2)(h3:K≠3)(h4:¬(4<=K/\K<=11))(F:Nat)(l:aG):lJ (K:Int) F l=some bN:=by
 rw[lJ,aj (by omega),aj (by omega),aj (by omega),aj (by omega)]
theorem Gw (F:Nat)(l:aG):lJ ((1:Nat):Int) F l=mc l:=by simp[lJ]
theorem Gv {K:Nat}(h:4<=K/\K<=11)(F:Nat)(l:aG):lJ (K:Int) F l=dV (K:Int) l:=by
 rw[lJ,aj (by omega),aj (by omega),aj (by omega),aE (by omega)]
theorem oX {l:aG}{p:Pk}(h:mc l=some p):p.wants= []/\p.aF= []/\p.fs= []:=by
 unfold mc at h
 split at h
 ·split at h
  ·rw[cj]at h
   obtain⟨L,_,e⟩:=h;injection e with e
   subst e;exact⟨rfl,rfl,rfl⟩
  ·cases h
 ·cases h
/-- A confirmation's cells, and a message's. -/
def P9 (z:Bool)(k:Nat):Array Value:=(zP 0 false false 0 [] [] 0 [] false 0 false [] [] 0 false false false [] [] z (k:Int) aN aN aN)
def PI (d r:Bool)(q:Nat)(t:aG):Array Value:=(zP 0 d r (q:Int) t [] 0 [] false 0 false [] [] 0 false false false [] [] false 0 aN aN aN)
theorem Ig (z:Bool)(k:Nat):Ke (P9 z k):=⟨rfl,by simp[P9,Value.oneCell']⟩
theorem GB (d r:Bool)(q:Nat)(t:aG):Ke (PI d r q t):=⟨rfl,by simp[PI,Value.oneCell']⟩
theorem Jw {w:au}{B:Nat}(h:B<=w.heap.size):lL w B none 0 []:=⟨λh=>absurd h (by simp),h,bE _,by simp[maxLen]⟩
theorem jz.same {w:au}{p q:Pk}{sw sc sf:Value}(h:jz w p sw sc sf)(h1:q.wants=p.wants)(h2:q.aF=p.aF)(h3:q.fs=p.fs):jz w q sw sc sf:=by
 obtain⟨a,b,c⟩:=h;exact⟨h1▸a,h2▸b,h3▸c⟩
theorem Jz {p:Pk}{sw sc sf:Value}{X:Array Value}(h:Value.agg X=eO p sw sc sf)(k:Int):eO {p with k:=k} sw sc sf= .agg (X.setIfInBounds 0 (.int .i64 k)):=by
 injection h with h
 subst h;rfl
theorem JG {p:Pk}{sw sc sf:Value}{X:Array Value}(h:eO p sw sc sf= .agg X):jA p X sw sc sf:=by
 obtain⟨Y,e,hY⟩:=jA.of p sw sc sf;rw[h]at e;injection e with e
 exact e▸hY
theorem sS.same {p:Pk}(h:sS p)(k:Int):sS {p with k:=k}:=⟨⟨h.ts.1,h.ts.2,h.ts.3,h.ts.4,h.ts.5,h.ts.6⟩,h.l⟩
theorem GD:∀f:Fin 16,IntKind.i64.wrap (((f.val:Nat):Int).tdiv 2)=((f.val / 2:Nat):Int)/\(((f.val / 2:Nat):Int)).tmod 4=((f.val / 2 % 4:Nat):Int)/\(IntKind.i64.wrap (((f.val:Nat):Int).tdiv 8)==1)=aH f.val 8/\(((f.val:Nat):Int).tmod 2==1)=aH f.val 1:=by decide+kernel
theorem yH (w:au)(A:Option Addr)(c:Nat)(l:aG)(h:lL w w.heap.size A c l)(hl:l.length<=60000):Calls prog 18 #[.slice A l.length c] w (Ik w l):=by
 obtain⟨W0,aV⟩:∃W0,w.alloc (.cells cT 29)=W0:=⟨_,rfl⟩;have HK:=zh (show ae w W0 []by rw[<-aV];exact ae.alloc _ _);have fw:=zh (show Row W0 w.heap.size 29 cT by rw[<-aV];exact Row.new _ _ _);have HH:=zh h
 by_cases h2:l.length < 2
 ·have d1:decide ((l.length:Int) < 2)=true:=bz (by omega)
  have HN:=zh (Gq h2);clear h h2 hl
  go_enter func18,ntmps18
  go_upto_region 1 with fail
  try rw[aV]
  clear aV
  go_wp2_with (refine wpList_store_row rfl (.tmp 2) (.tmp 20) 29 rfl w.heap.size cT cT fw.o (by kernel_rfl) rfl (by simp[Value.oneCell']) rfl rfl ?_;intro va ra ka;refine Hid.o ?_)
  refine zh ?_;have HE:=zh (And.intro ra (HK.o.trans ka (λy hy hlt=>by simp at hy;omega)));clear ra ka
  go_wp2_with fail
  exact bD (bV rfl rfl HE.o.1 rfl) rfl ⟨HE.o.2,.inr ⟨HN.o,rfl⟩⟩
 ·have h2' :2<=l.length:=by omega
  have d1:decide ((l.length:Int) < 2)=false:=aZ (by omega);obtain⟨x,l1,rfl⟩:∃x l1,l=x::l1:=by
   rcases l with _ | ⟨x,l1⟩
   ·simp at h2'
   ·exact⟨x,l1,rfl⟩
  have hlen:(x::l1).length=l1.length+1:=rfl;obtain⟨g,o,rfl,hgb,m0⟩:=HH.o.below.at_ (k:=0) (by simp);have ny:=zh (show∀W,ae w W []->W.cell? ⟨g,o,none⟩=some (.int .u8 (x.toNat:Nat))from λW hW=>(hW.cell (p:=⟨g,o,none⟩) hgb (by simp)).trans m0);clear m0;obtain⟨A1,L9⟩:∃A1,(if c=1 then some ⟨g,o,none⟩else(some (⟨g,o,none⟩:Addr)).map (·.add 1))=A1:=⟨_,rfl⟩;have pS:=zh L9;have O_:=zh (show lL W0 w.heap.size A1 (c - 1) l1 from by rw[<-L9];exact(HH.o.keeps HK.o).drop (k:=1) (by omega));have IJ:=zh (wQ W0 A1 (c - 1) l1 O_.o.lies);clear L9 h
  go_enter func18,ntmps18
  go_upto_region 1 with fail
  try rw[aV]
  clear aV
  go_upto_region 3 with fail
  refine cV ?_;refine aA (.slice (some ⟨g,o,none⟩) (x::l1).length c) rfl (by kernel_rfl) ?_;refine aA (.slice A1 l1.length (c - 1)) rfl (by rw[eU (x:= .tmp 22) (lo:= .const (.int .i64 1)) (a:=some ⟨g,o,none⟩) (len:=(x::l1).length) (cap:=c) (l:=1) (kl:= .i64) rfl (by kernel_rfl) (by kernel_rfl) (iG _),pS.o];rfl) ?_;simp only[Act.put,bo,bn,bh];unfold kC at IJ
  rcases hR:gi l1 with _ | _ | ⟨n,s⟩
  ·have HN:=zh (Gr (x:=x) (l:=l1) (λs _ _ h=>by rw[hR]at h;cases h))
   rw[hR]at IJ;clear hR
   go_wp2_with fail
   refine IJ.o.mono ?_;rintro e w1 ⟨rfl,rfl⟩
   go_wp2_with (refine wpList_store_row rfl (.tmp 2) (.tmp 43) 29 rfl w.heap.size cT cT fw.o (by kernel_rfl) rfl (by simp[Value.oneCell']) rfl rfl ?_;intro va ra ka;refine Hid.o ?_)
   refine zh ?_;have HE:=zh (And.intro ra (HK.o.trans ka (λy hy hlt=>by simp at hy;omega)));clear ra ka
   go_wp2_with fail
   exact bD (bV rfl rfl HE.o.1 rfl) rfl ⟨HE.o.2,.inr ⟨HN.o,rfl⟩⟩
  ·have HN:=zh (Gr (x:=x) (l:=l1) (λs _ _ h=>by rw[hR]at h;cases h))
   rw[hR]at IJ;clear hR
   go_wp2_with fail
   refine IJ.o.mono ?_;rintro e w1 ⟨rfl,rfl⟩
   go_wp2_with (refine wpList_store_row rfl (.tmp 2) (.tmp 43) 29 rfl w.heap.size cT cT fw.o (by kernel_rfl) rfl (by simp[Value.oneCell']) rfl rfl ?_;intro va ra ka;refine Hid.o ?_)
   refine zh ?_;have HE:=zh (And.intro ra (HK.o.trans ka (λy hy hlt=>by simp at hy;omega)));clear ra ka
   go_wp2_with fail
   exact bD (bV rfl rfl HE.o.1 rfl) rfl ⟨HE.o.2,.inr ⟨HN.o,rfl⟩⟩
  ·rw[hR]at IJ
   obtain⟨hs1,hs2⟩:1<=s/\s<=l1.length:=by
    have h1:=nW hR;refine⟨?_,h1.2.2.1⟩;rw[h1.2.1];unfold dD
    split
    ·omega
    ·split
     ·omega
     ·split <;> omega
   have hl1:l1.length<=59999:=by omega
   have w1:IntKind.i64.wrap (((x::l1).length:Int) - 1)=(l1.length:Int):=by rw[hlen,IntWalk.i64_in _ ⟨by omega,by omega⟩];omega
   have w2:IntKind.i64.wrap ((l1.length:Int) - (s:Int))=((l1.length - s:Nat):Int):=by rw[IntWalk.i64_in _ ⟨by omega,by omega⟩];omega
   have hs0:((s:Int)==0)=false:=by simp;omega
   by_cases hn:l1.length - s=n
   ·have hne:(((l1.length - s:Nat):Int) !=(n:Int))=false:=by rw[hn];simp
    go_wp2_with fail
    refine IJ.o.mono ?_;rintro e w1 ⟨rfl,rfl⟩
    go_upto_region 6 with fail
    have hx:=x.toNat_lt;obtain⟨X,hX⟩:∃X:Nat,x.toNat=X:=⟨_,rfl⟩;obtain⟨K,Tc⟩:∃K:Nat,X / 16=K:=⟨_,rfl⟩;obtain⟨F,Te⟩:∃F:Nat,X % 16=F:=⟨_,rfl⟩;rw[hX]at ny hx;have HQ:=zh (show IntKind.i64.wrap (X:Int)=(X:Int)/\IntKind.i64.wrap ((X:Int).tdiv 16)=(K:Int)/\(X:Int).tmod 16=(F:Int)/\IntKind.i64.wrap (1+(s:Int))=((1+s:Nat):Int)from
     ⟨IntWalk.i64_in _ ⟨by omega,by omega⟩,by rw[zT (by omega),IntWalk.i64_in _ ⟨by omega,by omega⟩];omega,by rw[rC (by omega)];omega,by rw[IntWalk.i64_in _ ⟨by omega,by omega⟩];omega⟩)
    have Pq:=zh (show X=x.toNat/\X / 16=K/\X % 16=F/\X < 256 from⟨hX.symm,Tc,Te,hx⟩);obtain⟨A2,zr⟩:∃A2,(if c=1+s then some ⟨g,o,none⟩else(some (⟨g,o,none⟩:Addr)).map (·.add (1+s)))=A2:=⟨_,rfl⟩;have uE:=zh zr;have zF:=zh (show lL w w.heap.size A2 (c - (1+s)) (l1.drop s)from by
     have h:=HH.o.drop (k:=1+s) (by omega);rw[zr,show(x::l1).drop (1+s)=l1.drop s by rw[Nat.add_comm,dF]]at h;exact h)
    clear hX Tc Te zr w2 hs0 hne IJ O_ pS;refine aB _ (by kernel_rfl) rfl (by kernel_rfl) ?_;refine lq (.slice (some ⟨g,o,none⟩) (x::l1).length c) ?_;simp only[af];refine ls ?_;simp only[af];refine ll 5 (.tmp 45) (⟨g,o,none⟩) (.int .u8 (X:Int)) (λW hW=>ny.o W (HK.o.ah hW)) ?_;refine aK (.int .i64 (X:Int)) (λ_=>by kernel_rfl) (λW _=>(show _=Result.ok (Next.value (.int .i64 (IntKind.i64.wrap (X:Int)))) W by kernel_rfl).trans (by rw[HQ.o.1])) ?_;refine aK (.int .i64 (K:Int)) (λ_=>by kernel_rfl) (λW _=>(show _=Result.ok (Next.value (.int .i64 (IntKind.i64.wrap ((X:Int).tdiv 16)))) W by kernel_rfl).trans (by rw[HQ.o.2.1])) ?_;refine lq (.slice (some ⟨g,o,none⟩) (x::l1).length c) ?_;simp only[af];refine ls ?_;simp only[af];refine ll 5 (.tmp 50) (⟨g,o,none⟩) (.int .u8 (X:Int)) (λW hW=>ny.o W (HK.o.ah hW)) ?_;refine aK (.int .i64 (X:Int)) (λ_=>by kernel_rfl) (λW _=>(show _=Result.ok (Next.value (.int .i64 (IntKind.i64.wrap (X:Int)))) W by kernel_rfl).trans (by rw[HQ.o.1])) ?_;refine aK (.int .i64 (F:Int)) (λ_=>by kernel_rfl) (λW _=>(show _=Result.ok (Next.value (.int .i64 ((X:Int).tmod 16))) W by kernel_rfl).trans (by rw[HQ.o.2.2.1])) ?_;refine lq (.slice (some ⟨g,o,none⟩) (x::l1).length c) ?_;refine lq (.int .i64 (s:Nat)) ?_;refine aK (.int .i64 ((1+s:Nat):Int)) (λ_=>by kernel_rfl) (λW _=>(show _=Result.ok (Next.value (.int .i64 (IntKind.i64.wrap (1+(s:Int))))) W by kernel_rfl).trans (by rw[HQ.o.2.2.2])) ?_;refine aK (.slice A2 ((x::l1).length - (1+s)) (c - (1+s))) (λ_=>by kernel_rfl) (λW vals=> ?_) ?_
    ·rw[eU (x:= .tmp 54) (lo:= .tmp 56) (a:=some ⟨g,o,none⟩) (len:=(x::l1).length) (cap:=c) (l:=1+s) (kl:= .i64) rfl (by kernel_rfl) (by kernel_rfl) (by omega),uE.o]
    refine lq (.int .i64 (K:Int)) ?_;refine lq (.int .i64 (F:Int)) ?_;refine lq (.slice A2 ((x::l1).length - (1+s)) (c - (1+s))) ?_;refine aq (λW vals hW ag=> ?_);simp only[af,aw]at ag
    try simp only[ai]at ag
    simp only[af,fill,Act.put,bo,bn,bh];clear ag;have Oo:(x::l1).length - (1+s)=n:=by simp only[du];omega
    rw[Oo];clear Oo;have HW:=zh hW;clear hW
    go_wp2_with (refine aQ rfl (.tmp 10) (.tmp 58) rfl cT cT W rfl (by kernel_rfl) rfl (by simp[Value.oneCell']) rfl rfl ?_;intro w6 Na)
    have k6:ae W w6 []:=by rw[<-Na];exact ae.alloc _ _
    have r6:Row w6 W.heap.size 29 cT:=by rw[<-Na];exact Row.new _ _ _
    obtain⟨b,hb⟩:∃b,W.heap.size=b:=⟨_,rfl⟩;rw[hb]at r6 ⊢
    have ST:=zh (show lO w w6 b cT from⟨(HK.o.ah HW.o).ah k6,(fw.o.keeps HW.o).keeps k6,r6,by have h1:=fw.o.lt;have h2:=HW.o.size;omega,⟨rfl,by simp[Value.oneCell']⟩⟩);have IC:=zh (zF.o.keeps ST.o.k);clear k6 r6 Na hb zF HW;refine zh ?_
    go_upto_block 0 with fail
    obtain⟨l2,hl2⟩:∃l2,l1.drop s=l2:=⟨_,rfl⟩;rw[hl2]at IC;have hn2:n=l2.length:=by rw[<-hl2,dQ,hn]
    subst hn2;have wJ:=zh (show∀p,fc (x::l1) p->(lJ (K:Int) F l2).map (λq=>{q with k:=(K:Int)})=some p from λp hp=>by
     obtain⟨s',e1,_,_,e4⟩:=vv hp;rw[hR]at e1
     iterate 2
      injection e1 with e1
     injection e1 with _ e1
     subst e1;rw[hl2,<-Pq.o.1,Pq.o.2.1,Pq.o.2.2.1]at e4;exact e4)
    go_cut [11] (λv wx=>∃z,v= .bool z/\Hid (uA w wx b K F l2 z))
    case first=>
     have Rs:F < 16:=by have:=Pq.o;omega
     clear HQ Pq ny uE HH HK fw hR wJ;have jP:=zh IC.o.up
     by_cases k1:K=1
     ·subst k1
      have HL:=zh (AE w6 A2 (c - (1+s)) l2 jP.o (by omega))
      go_wp2_with fail
      refine HL.o.mono ?_;rintro e w7 ⟨kw,he⟩;have gW:=zh (ST.o.keeps kw);clear ST HL jP
      rcases hc:mc l2 with _ | p
      ·rw[hc]at he
       obtain⟨X9,x1,x2,rfl⟩:=he
       go_wp2_with (refine wpList_store_row rfl (.tmp 10) (.tmp 65) 29 rfl b X9 cT gW.o.g (by rw[x1];kernel_rfl) (by rw[x1];rfl) x2 rfl rfl ?_;intro va ra ka;refine Hid.o ?_)
       refine zh ?_;have HO:=zh (show uA w va b 1 F l2 false from⟨X9,gW.o.to ka ra ⟨x1,x2⟩,(λh=>by cases h),λ_=>by rw[Gw];exact hc⟩);clear ra ka gW
       go_wp2_with fail
       go_meet
       exact⟨_,rfl,HO⟩
      ·obtain⟨X9,JU,JN⟩:∃X,eO p aN aN aN= .agg X/\Ke X:=⟨_,rfl,rfl,by simp[Value.oneCell']⟩
       rw[hc]at he
       change e= .returned (.tuple #[eO p aN aN aN,.bool true])at he
       rw[JU]at he;subst he
       go_wp2_with (refine wpList_store_row rfl (.tmp 10) (.tmp 65) 29 rfl b X9 cT gW.o.g (by rw[JN.z];kernel_rfl) (by rw[JN.z];rfl) JN.one rfl rfl ?_;intro va ra ka;refine Hid.o ?_)
       refine zh ?_;have HO:=zh (show uA w va b 1 F l2 true from⟨X9,gW.o.to ka ra JN,(λ_=>⟨p,_,_,_,JU.symm,jz.empty (oX hc).1 (oX hc).2.1 (oX hc).2.2,by rw[Gw];exact hc⟩),λh=>by cases h⟩);clear ra ka gW
       go_wp2_with fail
       go_meet
       exact⟨_,rfl,HO⟩
     ·by_cases kL:4<=K/\K<=11
      ·have HL:=zh (AB (K:Int) w6 A2 (c - (1+s)) l2 jP.o (by omega))
       have q1:decide ((K:Int)=1)=false:=aZ (by omega);have q2:decide ((K:Int)=2)=false:=aZ (by omega);have q3:decide ((K:Int)=3)=false:=aZ (by omega);have q4:decide ((K:Int)>=4)=true:=bz (by omega);have q5:decide ((K:Int)<=11)=true:=bz (by omega)
       go_wp2_with fail
       refine HL.o.mono ?_;rintro e w7 ⟨kw,he⟩;have gW:=zh (ST.o.keeps kw);clear ST HL jP
       rcases hc:dV (K:Int) l2 with _ | p
       ·rw[hc]at he
        obtain⟨X9,x1,x2,rfl⟩:=he
        go_wp2_with (refine wpList_store_row rfl (.tmp 10) (.tmp 137) 29 rfl b X9 cT gW.o.g (by rw[x1];kernel_rfl) (by rw[x1];rfl) x2 rfl rfl ?_;intro va ra ka;refine Hid.o ?_)
        refine zh ?_;have HO:=zh (show uA w va b K F l2 false from⟨X9,gW.o.to ka ra ⟨x1,x2⟩,(λh=>by cases h),λ_=>by rw[Gv kL];exact hc⟩);clear ra ka gW
        go_wp2_with fail
        go_meet
        exact⟨_,rfl,HO⟩
       ·rw[hc]at he
        obtain⟨sw,sc,sf,he,ht⟩:=he;obtain⟨X9,JU,JN⟩:=NH ht;rw[JU]at he;subst he
        go_wp2_with (refine wpList_store_row rfl (.tmp 10) (.tmp 137) 29 rfl b X9 cT gW.o.g (by rw[JN.z];kernel_rfl) (by rw[JN.z];rfl) JN.one rfl rfl ?_;intro va ra ka;refine Hid.o ?_)
        refine zh ?_;have HO:=zh (show uA w va b K F l2 true from⟨X9,gW.o.to ka ra JN,(λ_=>⟨p,sw,sc,sf,JU.symm,ht.Hk gW.o.g ka,by rw[Gv kL];exact hc⟩),λh=>by cases h⟩);clear ra ka gW
        go_wp2_with fail
        go_meet
        exact⟨_,rfl,HO⟩
      ·by_cases k3:K=3
       ·subst k3
        have MC:=zh (GD ⟨F,Rs⟩);simp only at MC;obtain⟨q,hq⟩:∃q:Nat,F / 2 % 4=q:=⟨_,rfl⟩;rw[hq]at MC;have Nu:=zh (show lJ ((3:Nat):Int) F l2=Ay F l2 from by simp[lJ]);have MG:=zh (show Ay F l2=(cQ l2).bind λt=>if 0 < q then(jv 2 t.2).bind λi=>some {bN with dup:=aH F 8,ret:=aH F 1,q:=(q:Nat),t:=t.1,id:=(i.1:Int),b:=i.2}else some {bN with dup:=aH F 8,ret:=aH F 1,q:=(q:Nat),t:=t.1,b:=t.2}from by rw[<-hq];rfl);have HT:=zh (mf w6 w.heap.size A2 (c - (1+s)) l2 IC.o);clear hq kL k1
        go_wp2_with fail
        refine HT.o.mono ?_;rintro e w7 ⟨kw,he⟩;have gW:=zh (ST.o.keeps kw);obtain⟨t,A3,c3,r,is,rfl,rB,G1,hno⟩:∃t A3 c3 r is,e= .returned (.tuple #[.string ⟨t.toArray⟩,.slice A3 r.length c3,.bool is])/\lL w7 w.heap.size A3 c3 r/\(is=true->cQ l2=some (t,r))/\(is=false->cQ l2=none):=by
         rcases hx:cQ l2 with _ | ⟨t,r⟩
         ·rw[hx]at he
          exact⟨[],none,0, [],false,he,Jw gW.o.k.size,by simp,λ_=>rfl⟩
         ·rw[hx]at he
          obtain⟨A,c',e1,hb⟩:=he;exact⟨t,A,c',r,true,e1,hb,λ_=>rfl,by simp⟩
        have O7:=zh rB;have Ki:=zh (And.intro G1 hno);clear ST HT jP IC kw he rB G1 hno
        go_upto_region 14 with fail
        refine cV ?_;refine aA (.string ⟨t.toArray⟩) rfl (by kernel_rfl) ?_;refine aA (.int .i64 (F:Int)) rfl (by kernel_rfl) ?_;refine aA (.int .i64 ((F / 2:Nat):Int)) rfl ((show _=Result.ok (Next.value (.int .i64 (IntKind.i64.wrap ((F:Int).tdiv 2)))) _ by kernel_rfl).trans (by rw[MC.o.1])) ?_;refine aA (.int .i64 (q:Int)) rfl ((show _=Result.ok (Next.value (.int .i64 (((F / 2:Nat):Int).tmod 4))) _ by kernel_rfl).trans (by rw[MC.o.2.1])) ?_;refine aA (.int .i64 (F:Int)) rfl (by kernel_rfl) ?_;refine aA (.int .i64 (IntKind.i64.wrap ((F:Int).tdiv 8))) rfl (by kernel_rfl) ?_;refine aA (.bool (aH F 8)) rfl ((show _=Result.ok (Next.value (.bool (IntKind.i64.wrap ((F:Int).tdiv 8)==1))) _ by kernel_rfl).trans (by rw[MC.o.2.2.1])) ?_;refine aA (.int .i64 (F:Int)) rfl (by kernel_rfl) ?_;refine aA (.int .i64 ((F:Int).tmod 2)) rfl (by kernel_rfl) ?_;refine aA (.bool (aH F 1)) rfl ((show _=Result.ok (Next.value (.bool ((F:Int).tmod 2==1))) _ by kernel_rfl).trans (by rw[MC.o.2.2.2])) ?_;obtain⟨d8,Q9⟩:∃d8,aH F 8=d8:=⟨_,rfl⟩;obtain⟨Nk,hd1⟩:∃Nk,aH F 1=Nk :=⟨_,rfl⟩;rw[Q9,hd1]at MG ⊢
        clear Q9 hd1;refine aA (.agg (PI d8 Nk q t)) rfl (by kernel_rfl) ?_;refine aA (.bool is) rfl (by kernel_rfl) ?_;refine wpList_store_row rfl (.tmp 10) (.tmp 103) 29 rfl b (PI d8 Nk q t) cT gW.o.g (by kernel_rfl) (by kernel_rfl) (GB _ _ _ _).one (by kernel_rfl) (by kernel_rfl) ?_;intro va ra ka;have eZ:=zh (gW.o.to ka ra (GB _ _ _ _));have DT:=zh (show lL va w.heap.size A3 c3 r from O7.o.keep ka (by have:=gW.o.o;simp;omega));have cq:va.cell? ⟨b,3,none⟩=some (.int .i64 (q:Int)):=ra.cell 3;clear gW ra ka O7 MC;simp only[Act.put,bo,bn,bh]
        cases is
        ·have HZ:=zh (show lJ ((3:Nat):Int) F l2=none by rw[Nu.o,MG.o,Ki.o.2 rfl];rfl)
         clear Nu MG Ki cq
         go_upto_region 20 with fail
         refine cV ?_;refine aA (.slice A3 r.length c3) rfl (by kernel_rfl) ?_;refine aA (.string ⟨r.toArray⟩) rfl (by rw[iW (t:=32) (u:=9) (x:= .tmp 123) (v:= .slice A3 r.length c3) (s:= .string ⟨r.toArray⟩) rfl (by kernel_rfl) (dO _ _ A3 c3 r DT.o.lies)]) ?_;refine aA (.pointer (some ⟨b,5,none⟩)) rfl (by kernel_rfl) ?_;refine dY rfl 9 (.tmp 125) (.tmp 124) b 5 (.string ⟨r.toArray⟩) rfl (by kernel_rfl) (by kernel_rfl) rfl rfl (by kernel_rfl) eZ.o.g (by rw[eZ.o.x.z];decide) ?_;intro wz rz kz;have HO:=zh (show uA w wz b 3 F l2 false from⟨_,eZ.o.to kz rz (eZ.o.x.set 5 rfl),(λh=>by cases h),λ_=>HZ.o⟩);clear rz kz;simp only[Act.put,bo,bn,bh]
         go_wp2_with fail
         go_meet
         exact⟨_,rfl,HO⟩
        ·have HY:=zh (Ki.o.1 rfl)
         clear Ki
         by_cases Fx:0 < q
         ·have PR:decide ((q:Int) > 0)=true:=bz (by omega)
          have iz:=zh (rR va A3 c3 r DT.o.lies);have Nt:=zh (show lJ ((3:Nat):Int) F l2=(jv 2 r).bind λi=>some {bN with dup:=d8,ret:=Nk,q:=(q:Nat),t:=t,id:=(i.1:Int),b:=i.2}by rw[Nu.o,MG.o,HY.o,di,aE Fx]);clear Nu MG HY
          go_wp2_with fail
          refine iz.o.mono ?_;rintro e w9 ⟨rfl,rfl⟩;unfold mC
          rcases Fw:jv 2 r with _ | ⟨n,r4⟩
          ·rw[Fw]at Nt
           clear cq PR iz Fw
           go_upto_region 17 with fail
           refine cV ?_;refine aA (.int .u64 0) rfl (by kernel_rfl) ?_;refine aA (.int .i64 0) rfl (by kernel_rfl) ?_;refine aA (.bool false) rfl (by kernel_rfl) ?_;refine aA (.pointer (some ⟨b,6,none⟩)) rfl (by kernel_rfl) ?_;refine dY rfl 2 (.tmp 119) (.tmp 117) b 6 (.int .i64 0) rfl (by kernel_rfl) (by kernel_rfl) rfl rfl (by kernel_rfl) eZ.o.g (by rw[eZ.o.x.z];decide) ?_;intro wy ry ky;have jZ:=zh (eZ.o.to ky ry (eZ.o.x.set 6 rfl));have Kk:=zh (show lL wy w.heap.size A3 c3 r from DT.o.keep ky (by have:=eZ.o.o;simp;omega));clear ry ky eZ DT;simp only[Act.put,bo,bn,bh]
           go_upto_region 20 with fail
           refine cV ?_;refine aA (.slice A3 r.length c3) rfl (by kernel_rfl) ?_;refine aA (.string ⟨r.toArray⟩) rfl (by rw[iW (t:=32) (u:=9) (x:= .tmp 123) (v:= .slice A3 r.length c3) (s:= .string ⟨r.toArray⟩) rfl (by kernel_rfl) (dO _ _ A3 c3 r Kk.o.lies)]) ?_;refine aA (.pointer (some ⟨b,5,none⟩)) rfl (by kernel_rfl) ?_;refine dY rfl 9 (.tmp 125) (.tmp 124) b 5 (.string ⟨r.toArray⟩) rfl (by kernel_rfl) (by kernel_rfl) rfl rfl (by kernel_rfl) jZ.o.g (by rw[jZ.o.x.z];decide) ?_;intro wz rz kz;have HO:=zh (show uA w wz b 3 F l2 false from⟨_,jZ.o.to kz rz (jZ.o.x.set 5 rfl),(λh=>by cases h),λ_=>Nt.o⟩);clear rz kz;simp only[Act.put,bo,bn,bh]
           go_wp2_with fail
           go_meet
           exact⟨_,rfl,HO⟩
          ·obtain⟨sY,Tk,hn⟩:r4=r.drop 2/\2<=r.length/\n < 65536:=by
            have h1:=bJ Fw;unfold jv at Fw
            split at Fw
            ·injection Fw with Fw
             injection Fw with _ e2
             exact⟨e2.symm,by omega,by have:=h1.2.1;simpa using this⟩
            ·cases Fw
           rw[Fw]at Nt;have VK:=zh (show IntKind.i64.wrap (n:Int)=(n:Int)from IntWalk.i64_in _ ⟨by omega,by omega⟩);clear cq PR iz Fw
           go_upto_region 17 with fail
           refine cV ?_;refine aA (.int .u64 (n:Nat)) rfl (by kernel_rfl) ?_;refine aA (.int .i64 (n:Int)) rfl ((show _=Result.ok (Next.value (.int .i64 (IntKind.i64.wrap (n:Int)))) _ by kernel_rfl).trans (by rw[VK.o])) ?_;refine aA (.bool true) rfl (by kernel_rfl) ?_;refine aA (.pointer (some ⟨b,6,none⟩)) rfl (by kernel_rfl) ?_;refine dY rfl 2 (.tmp 119) (.tmp 117) b 6 (.int .i64 (n:Int)) rfl (by kernel_rfl) (by kernel_rfl) rfl rfl (by kernel_rfl) eZ.o.g (by rw[eZ.o.x.z];decide) ?_;intro wy ry ky;have jZ:=zh (eZ.o.to ky ry (eZ.o.x.set 6 rfl));have Kk:=zh (show lL wy w.heap.size A3 c3 r from DT.o.keep ky (by have:=eZ.o.o;simp;omega));clear ry ky eZ DT;simp only[Act.put,bo,bn,bh]
           go_upto_region 19 with fail
           obtain⟨A4,Rw⟩:∃A4,(if c3=2 then A3 else A3.map (·.add 2))=A4:=⟨_,rfl⟩;refine cV ?_;refine aA (.slice A3 r.length c3) rfl (by kernel_rfl) ?_;refine aA (.slice A4 (r.length - 2) (c3 - 2)) rfl (by rw[eU (x:= .tmp 121) (lo:= .const (.int .i64 2)) (a:=A3) (len:=r.length) (cap:=c3) (l:=2) (kl:= .i64) rfl (by kernel_rfl) (by kernel_rfl) Tk,Rw]) ?_;have RX:=zh (show lL wy w.heap.size A4 (c3 - 2) r4 from by rw[sY,<-Rw];exact Kk.o.drop Tk);have hl4:r4.length=r.length - 2:=by rw[sY,dQ]
           rw[<-hl4];clear hl4 Rw sY Kk;simp only[Act.put,bo,bn,bh]
           go_upto_region 20 with fail
           refine cV ?_;refine aA (.slice A4 r4.length (c3 - 2)) rfl (by kernel_rfl) ?_;refine aA (.string ⟨r4.toArray⟩) rfl (by rw[iW (t:=32) (u:=9) (x:= .tmp 123) (v:= .slice A4 r4.length (c3 - 2)) (s:= .string ⟨r4.toArray⟩) rfl (by kernel_rfl) (dO _ _ A4 (c3 - 2) r4 RX.o.lies)]) ?_;refine aA (.pointer (some ⟨b,5,none⟩)) rfl (by kernel_rfl) ?_;refine dY rfl 9 (.tmp 125) (.tmp 124) b 5 (.string ⟨r4.toArray⟩) rfl (by kernel_rfl) (by kernel_rfl) rfl rfl (by kernel_rfl) jZ.o.g (by rw[jZ.o.x.z];decide) ?_;intro wz rz kz;have HO:=zh (show uA w wz b 3 F l2 true from⟨_,jZ.o.to kz rz (jZ.o.x.set 5 rfl),(λ_=>⟨_,.slice none 0 0,.slice none 0 0,.slice none 0 0,rfl,jz.empty rfl rfl rfl,Nt.o⟩),λh=>by cases h⟩);clear rz kz;simp only[Act.put,bo,bn,bh]
           go_wp2_with fail
           go_meet
           exact⟨_,rfl,HO⟩
         ·have PR:decide ((q:Int) > 0)=false:=aZ (by omega)
          have Nt:=zh (show lJ ((3:Nat):Int) F l2=some {bN with dup:=d8,ret:=Nk,q:=(q:Nat),t:=t,b:=r}by rw[Nu.o,MG.o,HY.o,di,aj Fx]);clear Nu MG HY
          go_upto_region 20 with fail
          refine cV ?_;refine aA (.slice A3 r.length c3) rfl (by kernel_rfl) ?_;refine aA (.string ⟨r.toArray⟩) rfl (by rw[iW (t:=32) (u:=9) (x:= .tmp 123) (v:= .slice A3 r.length c3) (s:= .string ⟨r.toArray⟩) rfl (by kernel_rfl) (dO _ _ A3 c3 r DT.o.lies)]) ?_;refine aA (.pointer (some ⟨b,5,none⟩)) rfl (by kernel_rfl) ?_;refine dY rfl 9 (.tmp 125) (.tmp 124) b 5 (.string ⟨r.toArray⟩) rfl (by kernel_rfl) (by kernel_rfl) rfl rfl (by kernel_rfl) eZ.o.g (by rw[eZ.o.x.z];decide) ?_;intro wz rz kz;have HO:=zh (show uA w wz b 3 F l2 true from⟨_,eZ.o.to kz rz (eZ.o.x.set 5 rfl),(λ_=>⟨_,.slice none 0 0,.slice none 0 0,.slice none 0 0,rfl,jz.empty rfl rfl rfl,Nt.o⟩),λh=>by cases h⟩);clear rz kz;simp only[Act.put,bo,bn,bh]
          go_wp2_with fail
          go_meet
          exact⟨_,rfl,HO⟩
       ·by_cases k2:K=2
        ·by_cases G_:l2.length=2
         ·subst k2
          obtain⟨y1,y2,rfl⟩:∃y1 y2,l2= [y1,y2]:=by
           rcases l2 with _ | ⟨y,_ | ⟨y2,_ | ⟨d,r⟩⟩⟩
           ·simp at G_
           ·simp at G_
           ·exact⟨_,_,rfl⟩
           ·simp at G_
          obtain⟨g2,o2,rfl,_,m0⟩:=jP.o.lies.at_ (k:=0) (by simp);obtain⟨g',o',e',_,m1⟩:=jP.o.lies.at_ (k:=1) (by simp);injection e' with e'
          injection e' with e1 e2
          subst e1 e2;have M0:=zh (λ(W' :au) (hW:ae w6 W' [])=>show W'.cell? ⟨g2,o2,none⟩=some (.int .u8 (y1.toNat:Nat))from(hW.cell (p:=⟨g2,o2+0,none⟩) (by assumption) (by simp)).trans m0);have M1:=zh (λ(W' :au) (hW:ae w6 W' [])=>show W'.cell? ⟨g2,o2+1,none⟩=some (.int .u8 (y2.toNat:Nat))from(hW.cell (p:=⟨g2,o2+1,none⟩) (by assumption) (by simp)).trans m1);have Qm:=zh (show lJ ((2:Nat):Int) F [y1,y2]=some {bN with pr:=decide (y1.toNat=1),code:=(y2.toNat:Int)}from by simp[lJ,D_]);have DY:=zh y2.toNat_lt;obtain⟨n1,hn1⟩:∃n,y1.toNat=n:=⟨_,rfl⟩;obtain⟨n2,Oi⟩:∃n,y2.toNat=n:=⟨_,rfl⟩;rw[hn1]at M0 Qm;rw[Oi]at M1 Qm DY;have hz1:((n1:Int)==1)=decide (n1=1):=by by_cases h:n1=1 <;> simp[h] <;> omega
          obtain⟨z1,hz⟩:∃z1,decide (n1=1)=z1:=⟨_,rfl⟩;rw[hz]at hz1 Qm;have FZ:=zh hz1;have Np:=zh (show IntKind.i64.wrap (n2:Int)=(n2:Int)by have:=DY.o;exact IntWalk.i64_in _ ⟨by omega,by omega⟩);clear hn1 Oi m0 m1 jP DY kL hz hz1 G_
          go_upto_region 11 with fail
          refine cE ax _ 9 (by kernel_rfl) rfl (by kernel_rfl) (λ_=>ae.refl _ _) (λ_ _ _ h k=>h.trans k (by simp)) (ae.drew _) ?_;simp only[dc,dg,dF,dK];refine lq (.slice (some ⟨g2,o2,none⟩) 2 (c - (1+s))) ?_;simp only[af];refine ls ?_;simp only[af];refine ll 5 (.tmp 76) (⟨g2,o2,none⟩) (.int .u8 (n1:Int)) (λW hW=>M0.o W hW) ?_;refine aK (.bool z1) (λ_=>by kernel_rfl) (λW _=>(show _=Result.ok (Next.value (.bool (((n1:Int)==1)))) W by kernel_rfl).trans (by rw[FZ.o])) ?_;refine lq (.slice (some ⟨g2,o2,none⟩) 2 (c - (1+s))) ?_;simp only[af];refine ls ?_;simp only[af];refine ll 5 (.tmp 80) (⟨g2,o2+1,none⟩) (.int .u8 (n2:Int)) (λW hW=>M1.o W hW) ?_;refine aK (.int .i64 (n2:Int)) (λ_=>by kernel_rfl) (λW _=>(show _=Result.ok (Next.value (.int .i64 (IntKind.i64.wrap (n2:Int)))) W by kernel_rfl).trans (by rw[Np.o])) ?_;refine lq (.agg (P9 z1 n2)) ?_;refine aq (λW vals hW ag=> ?_);simp only[af,aw]at ag
          try simp only[ai]at ag
          simp only[af,fill,Act.put,bo,bn,bh];clear ag;have gW:=zh (ST.o.keeps hW);clear ST hW M0 M1
          go_wp2_with (refine wpList_store_row rfl (.tmp 10) (.tmp 83) 29 rfl b (P9 z1 n2) cT gW.o.g (by kernel_rfl) (by kernel_rfl) (Ig _ _).one (by kernel_rfl) (by kernel_rfl) ?_;intro va ra ka;refine Hid.o ?_)
          refine zh ?_;have HO:=zh (show uA w va b 2 F [y1,y2] true from⟨_,gW.o.to ka ra (Ig _ _),(λ_=>⟨_,.slice none 0 0,.slice none 0 0,.slice none 0 0,rfl,jz.empty rfl rfl rfl,Qm.o⟩),λh=>by cases h⟩);clear ra ka gW
          go_wp2_with fail
          go_meet
          exact⟨_,rfl,HO⟩
         ·subst k2
          have q6:decide ((l2.length:Int)=2)=false:=aZ (by omega);have hz:D_ l2=bN:=by
           rcases l2 with _ | ⟨a,_ | ⟨b,_ | ⟨d,r⟩⟩⟩
           ·rfl
           ·rfl
           ·exact absurd rfl G_
           ·rfl
          have HO:=zh (show uA w w6 b 2 F l2 true from⟨cT,ST.o,(λ_=>⟨bN,_,_,_,rfl,jz.empty rfl rfl rfl,by rw[<-hz];simp[lJ]⟩),λh=>by cases h⟩);clear ST jP
          go_wp2_with fail
          all_goals
           go_meet
           exact⟨_,rfl,HO⟩
        ·have q1:decide ((K:Int)=1)=false:=aZ (by omega)
         have q2:decide ((K:Int)=2)=false:=aZ (by omega);have q3:decide ((K:Int)=3)=false:=aZ (by omega);have q4:(decide ((K:Int)>=4) && decide ((K:Int)<=11))=false:=by
          rw[Bool.and_eq_false_iff]
          by_cases h:K < 4
          ·exact .inl (aZ (by omega))
          ·exact .inr (aZ (by omega))
         have HO:=zh (show uA w w6 b K F l2 true from⟨cT,ST.o,(λ_=>⟨bN,_,_,_,rfl,jz.empty rfl rfl rfl,Lc k1 k2 k3 kL F l2⟩),λh=>by cases h⟩);clear ST jP
         go_wp2_with fail
         all_goals
          go_meet
          exact⟨_,rfl,HO⟩
    case rest=>
     rename_i K1 hK1;refine hK1 _ _ ?_;clear hK1 K1;obtain⟨z,rfl,F3⟩:=hcut;obtain⟨X9,Ox,G1,hno⟩:=F3.o;have Mm:=zh Ox;have Ki:=zh (And.intro G1 hno);clear F3 Ox G1 hno ST HQ ny uE hR IC
     go_upto_region 23 with fail
     refine cV ?_;refine aA (.int .i64 (K:Int)) rfl (by kernel_rfl) ?_;refine aA (.pointer (some ⟨b,0,none⟩)) rfl (by kernel_rfl) ?_;refine dY rfl 22 (.tmp 140) (.tmp 139) b 0 (.int .i64 (K:Int)) rfl (by kernel_rfl) (by kernel_rfl) rfl rfl (by kernel_rfl) Mm.o.g (by rw[Mm.o.x.z];decide) ?_;intro wy ry ky;have Em:=zh (Mm.o.to ky ry (Mm.o.x.set 0 rfl));simp only[Act.put,bo,bn,bh]
     go_upto_region 24 with fail
     cases z
     ·have HN:=zh (show∀p,¬fc (x::l1) p from λp hp=>by have h:=wJ.o p hp;rw[Ki.o.2 rfl]at h;cases h)
      clear Ki ry ky Mm;refine aB _ (by kernel_rfl) rfl (by kernel_rfl) ?_;refine lq (.bool false) ?_
      iterate 2
       refine lq (.bool true) ?_;refine lq (.bool true) ?_;refine lo ?_;refine lo ?_;refine lo ?_
      iterate 3
       refine lo ?_
      refine lq (.bool true) ?_;refine aq (λW vals hW ag=> ?_);simp only[af,aw]at ag
      try simp only[ai]at ag
      simp only[af,fill,Act.put,bo,bn,bh];clear ag;replace fw:=zh (Em.o.s.keeps hW);replace HK:=zh (Em.o.k.ah hW);clear hW Em
      go_wp2_with (refine wpList_store_row rfl (.tmp 2) (.tmp 156) 29 rfl w.heap.size cT cT fw.o (by kernel_rfl) rfl (by simp[Value.oneCell']) rfl rfl ?_;intro va ra ka;refine Hid.o ?_)
      refine zh ?_;have HE:=zh (And.intro ra (HK.o.trans ka (λy hy hlt=>by simp at hy;omega)));clear ra ka
      go_wp2_with fail
      exact bD (bV rfl rfl HE.o.1 rfl) rfl ⟨HE.o.2,.inr ⟨HN.o,rfl⟩⟩
     ·obtain⟨p,sw,sc,sf,hX,hT,zj⟩:=Ki.o.1 rfl
      have Pb:=zh (Jz hX (K:Int));have ME:=zh ((hT.Hk Mm.o.g ky).same (q:={p with k:=(K:Int)}) rfl rfl rfl);have RZ:=zh ((Gu (by omega) zj).same (K:Int));have Mz:=zh (show∀p',fc (x::l1) p' ->({p with k:=(K:Int)}:Pk)=p' from λp' hp=>by have h:=wJ.o p' hp;rw[zj]at h;exact Option.some.inj h);obtain⟨P,hP⟩:∃P:Pk,({p with k:=(K:Int)}:Pk)=P:=⟨_,rfl⟩;rw[hP]at Pb ME RZ Mz;obtain⟨X2,Tb⟩:∃X2,X9.setIfInBounds 0 (.int .i64 (K:Int))=X2:=⟨_,rfl⟩;rw[Tb]at Pb Em;have HZ:=zh (show(Tryz.prog.info? 29).map (·.size)=some X2.size from by rw[Em.o.x.z];kernel_rfl);have O6:=zh (show∀W,ae wy W []->Calls prog 12 #[.agg X2] W (aJ W (fD P))from λW hW=>by have hh:=yG P sw sc sf W (ME.o.g.keeps hW) RZ.o.ts RZ.o.l;rw[Pb.o]at hh;exact hh);have gH:=zh (show fD P=true->∀W,ae wy W []->Calls prog 15 #[.agg X2] W λe w' =>∃v,e= .returned v/\aS w' 0 v (gu P)/\ae W w' []from λho W hW=>by
       refine(Cr P X2 sw sc sf W (JG Pb.o) (ME.o.g.keeps hW) ho HZ.o).mono ?_;rintro e w' ⟨v,h1,h2,h3⟩;exact⟨v,h1,bR h2 (Nat.zero_le _),h3⟩)
      clear hX hT zj hP Tb Ki ry ky Mm wJ
      cases ho:fD P
      ·have HN:=zh (show∀p,¬fc (x::l1) p from λp' hp=>by have h:=Mz.o p' hp;subst h;rw[hp.1]at ho;cases ho)
       rw[ho]at O6;clear gH ho;refine aB _ (by kernel_rfl) rfl (by kernel_rfl) ?_;refine lq (.bool true) ?_
       iterate 2
        refine lq (.bool false) ?_
       refine lx (λW hW=>Em.o.g.keeps hW) underlying29 HZ.o ?_;refine lc 12 #[.agg X2] (.bool false) (λW hW=>O6.o W hW) ?_
       iterate 3
        refine lq (.bool true) ?_
       iterate 6
        refine lo ?_
       refine lq (.bool true) ?_;refine aq (λW vals hW ag=> ?_);simp only[af,aw]at ag
       try simp only[ai]at ag
       simp only[af,fill,Act.put,bo,bn,bh];clear ag;replace fw:=zh (Em.o.s.keeps hW);replace HK:=zh (Em.o.k.ah hW);clear hW Em
       go_wp2_with (refine wpList_store_row rfl (.tmp 2) (.tmp 156) 29 rfl w.heap.size cT cT fw.o (by kernel_rfl) rfl (by simp[Value.oneCell']) rfl rfl ?_;intro va ra ka;refine Hid.o ?_)
       refine zh ?_;have HE:=zh (And.intro ra (HK.o.trans ka (λy hy hlt=>by simp at hy;omega)));clear ra ka
       go_wp2_with fail
       exact bD (bV rfl rfl HE.o.1 rfl) rfl ⟨HE.o.2,.inr ⟨HN.o,rfl⟩⟩
      ·rw[ho]at O6
       replace gH:=zh (gH.o ho);obtain⟨B,hB⟩:∃B,gu P=B:=⟨_,rfl⟩;rw[hB]at gH;have Ew:=zh (And.intro ho hB);obtain⟨eq,heq⟩:∃eq:Bool,(!((⟨B.toArray⟩:ByteArray).toList==(⟨(x::l1).toArray⟩:ByteArray).toList))=eq:=⟨_,rfl⟩;have Sd:=zh heq;have oI:=zh (show∀W,ae wy W []->(convert 32 9 (.slice (some ⟨g,o,none⟩) (x::l1).length c)).run prog W= .ok (.string ⟨(x::l1).toArray⟩) W from λW hW=>dO W _ _ c (x::l1) (HH.o.keeps (Em.o.k.ah hW)).lies);clear ho hB heq;refine aB _ (by kernel_rfl) rfl (by kernel_rfl) ?_;refine lq (.bool true) ?_
       iterate 2
        refine lq (.bool false) ?_
       refine lx (λW hW=>Em.o.g.keeps hW) underlying29 HZ.o ?_;refine lc 12 #[.agg X2] (.bool true) (λW hW=>O6.o W hW) ?_
       iterate 3
        refine lq (.bool false) ?_
       refine lx (λW hW=>Em.o.g.keeps hW) underlying29 HZ.o ?_;refine lcs 15 #[.agg X2] (λv W' =>aS W' 0 v B) (λW hW=> ?_) ?_
       ·refine(gH.o W hW).mono ?_
        rintro e w2 ⟨v,rfl,ho,hk⟩;exact⟨v,rfl,hk,ho⟩
       simp only[af];refine ak (.string ⟨B.toArray⟩) (λW vals hW ag=> ?_) ?_
       ·simp only[knows]at ag
        try simp only[ai]at ag
        obtain⟨W1,h0,h1,ho⟩:=ag (by decide);obtain⟨A',c',hv,_,_⟩:=ck ho;rw[hv]at ho;have hcs:=dO W _ A' c' B (cG.tG (aM ho h1 (by simp)));refine⟨?_⟩;rw[aE (by kernel_rfl)];rw[iW (t:=32) (u:=9) (x:= .tmp 150) (v:= .slice A' B.length c') (s:= .string ⟨B.toArray⟩) rfl ((show _=vals 150 by kernel_rfl).trans hv) hcs];exact⟨ae.refl _ _,rfl⟩
       simp only[af];refine lq (.slice (some ⟨g,o,none⟩) (x::l1).length c) ?_;refine ak (.string ⟨(x::l1).toArray⟩) (λW vals hW _=>⟨?_⟩) ?_
       ·rw[aE (by kernel_rfl)]
        rw[iW (t:=32) (u:=9) (x:= .tmp 152) (v:= .slice (some ⟨g,o,none⟩) (x::l1).length c) (s:= .string ⟨(x::l1).toArray⟩) rfl (by kernel_rfl) (oI.o W hW)];exact⟨ae.refl _ _,rfl⟩
       simp only[af];refine aK (.bool eq) (λ_=>by kernel_rfl) (λW vals=>(show _=Result.ok (Next.value (.bool (!((⟨B.toArray⟩:ByteArray).toList==(⟨(x::l1).toArray⟩:ByteArray).toList)))) W by kernel_rfl).trans (by rw[Sd.o])) ?_;simp only[af];refine lq (.bool eq) ?_;refine aq (λW vals hW ag=> ?_);simp only[af,aw]at ag
       try simp only[ai]at ag
       simp only[af,fill,Act.put,bo,bn,bh];clear ag;have uC :=zh (Em.o.keeps hW);replace ME:=zh (ME.o.keeps hW);clear hW Em fw HK oI gH O6
       cases eq
       ·have DX:=zh (show fc (x::l1) P from⟨Ew.o.1,by have h:=Sd.o;rw[Ew.o.2];simpa [Lib.toList_data]using h⟩)
        go_wp2_with (first | (refine bf (by kernel_rfl) rfl rfl uC.o.g underlying29 rfl HZ.o ?_) | (refine wpList_store_row rfl (.tmp 2) (.tmp 157) 29 rfl w.heap.size X2 cT uC.o.s (by rw[uC.o.x.z];kernel_rfl) (by rw[uC.o.x.z];rfl) uC.o.x.one rfl rfl ?_;intro va ra ka;refine Hid.o ?_))
        refine zh ?_;have HE:=zh (And.intro ra (And.intro (uC.o.k.trans ka (λy hy hlt=>by simp at hy;omega)) (ME.o.Hk uC.o.s ka)));have uB:=zh uC.o.x;clear ra ka uC ME
        go_wp2_with fail
        refine bD (bV rfl rfl HE.o.1 uB.o.z) rfl ⟨HE.o.2.1,.inl ⟨P,sw,sc,sf,DX.o, ?_,HE.o.2.2⟩⟩;rw[Pb.o];rfl
       ·have HN:=zh (show∀p,¬fc (x::l1) p from λp' hp=>by
         have h:=Mz.o p' hp;subst h;have h2:=Sd.o;rw[<-Ew.o.2,hp.2]at h2;simp at h2)
        have fw:=zh uC.o.s;have HK:=zh uC.o.k;clear uC
        go_wp2_with (refine wpList_store_row rfl (.tmp 2) (.tmp 156) 29 rfl w.heap.size cT cT fw.o (by kernel_rfl) rfl (by simp[Value.oneCell']) rfl rfl ?_;intro va ra ka;refine Hid.o ?_)
        refine zh ?_;have HE:=zh (And.intro ra (HK.o.trans ka (λy hy hlt=>by simp at hy;omega)));clear ra ka
        go_wp2_with fail
        exact bD (bV rfl rfl HE.o.1 rfl) rfl ⟨HE.o.2,.inr ⟨HN.o,rfl⟩⟩
   ·have hne:(((l1.length - s:Nat):Int) !=(n:Int))=true:=by simp;omega
    have HN:=zh (Gr (x:=x) (l:=l1) (λs' _ _ h=>by
     rw[hR]at h;injection h with h
     injection h with h
     injection h with h3 h4
     subst h4;exact hn h3.symm))
    clear hR hn
    go_wp2_with fail
    refine IJ.o.mono ?_;rintro e w1 ⟨rfl,rfl⟩
    go_wp2_with (refine wpList_store_row rfl (.tmp 2) (.tmp 43) 29 rfl w.heap.size cT cT fw.o (by kernel_rfl) rfl (by simp[Value.oneCell']) rfl rfl ?_;intro va ra ka;refine Hid.o ?_)
    refine zh ?_;have HE:=zh (And.intro ra (HK.o.trans ka (λy hy hlt=>by simp at hy;omega)));clear ra ka
    go_wp2_with fail
    exact bD (bV rfl rfl HE.o.1 rfl) rfl ⟨HE.o.2,.inr ⟨HN.o,rfl⟩⟩
end Go.Proofs.YtahbikfbjenfpaaGreatDoor
