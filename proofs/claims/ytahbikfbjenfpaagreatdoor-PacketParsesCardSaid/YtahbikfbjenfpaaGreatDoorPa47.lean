/- Reference 3: a text's bytes. The reference of packets: text, two, one. The reference of packets: body. -/
import Derived.Test.YtahbikfbjenfpaaGreatDoorPa21
import Derived.Test.YtahbikfbjenfpaaGreatDoorPa0
import Derived.Test.YtahbikfbjenfpaaGreatDoorPa35
import Derived.Test.YtahbikfbjenfpaaGreatDoorPa44
set_option maxHeartbeats 2000000
set_option maxRecDepth 100000
namespace Go.Proofs.YtahbikfbjenfpaaGreatDoor
open Tryz Go.RowKit

theorem Gf (n:Nat):dZ 2 n= [UInt8.ofNat (n / 256),UInt8.ofNat n]:=by
 rw[vf 1 n,vf 0 n];simp[dZ]
theorem Ef (w:au)(n:Nat)(hn:n<=65535):aS (w.alloc (.cells #[.int .u8 ((n:Int) / 256),.int .u8 ((n:Int) % 256)] 5)) w.heap.size (.slice (some ⟨w.heap.size,0,none⟩) 2 2) (dZ 2 n):=by
 rw[Gf];refine⟨rfl,.inr ⟨w.heap.size,2, #[.int .u8 ((n:Int) / 256),.int .u8 ((n:Int) % 256)],rfl,bE _,Row.new _ _ _,bE _,by simp[maxLen],rfl, ?_⟩⟩;have h1:((n / 256 % 256:Nat):Int)=(n:Int) / 256:=by omega
 have h2:((n % 256:Nat):Int)=(n:Int) % 256:=by omega
 simp[bq,h1,h2]
theorem AA (w:au)(s:aG)(hs:s.length<=65535):
  Calls prog 151 #[lI s] w λe w' =>
   ∃v,e= .returned (.tuple #[v,.bool true])/\aS w' w.heap.size v (dZ 2 s.length++s)/\ae w w' []:=by
 have hsz:(⟨s.toArray⟩:ByteArray).size=s.length:=jT s;have Ni:decide ((65535:Int) < (s.length:Int))=false:=by simp;omega
 have hq:(s.length:Int).tdiv 256=(s.length:Int) / 256:=zT (by omega);have hr:(s.length:Int).tmod 256=(s.length:Int) % 256:=rC (by omega);have hw:IntKind.u8.wrap ((s.length:Int) / 256)=(s.length:Int) / 256:=IntWalk.u8_in _ ⟨by omega,by omega⟩;have hw2:IntKind.u8.wrap ((s.length:Int) % 256)=(s.length:Int) % 256:=IntWalk.u8_in _ ⟨by omega,by omega⟩;have HS:=zh hs;clear hs;unfold lI
 go_enter func151,ntmps151
 have QS:wrap64 ((s.length:Int) / 256)=(s.length:Int) / 256:=by have:=HS.o;unfold wrap64;omega
 have hm:(s.length:Int) / 256 % 256=(s.length:Int) / 256:=by have:=HS.o;omega
 go_wp2_with (at_builtin;refine gS rfl (.tmp 15) (.tmp 16) rfl w.heap.size (.slice (some ⟨w.heap.size,0,none⟩) 2 2) (dZ 2 s.length) s rfl (Ef w s.length HS.o) rfl (by have:=HS.o;rw[aP];omega) (by simp) ?_;intro u2 w2 HA)
 go_ret2
 exact⟨u2,rfl,HA.o.1,(ae.alloc _ _).trans HA.o.2 (λx hx hlt=>by simp[Value.ownBlock]at hx;omega)⟩
end Go.Proofs.YtahbikfbjenfpaaGreatDoor

namespace Go.Proofs.YtahbikfbjenfpaaGreatDoor
open Tryz Go.RowKit Go.Shelf

theorem gD (w:au)(s:aG)(hs:s.length<=65535):Calls prog 101 #[.string ⟨s.toArray⟩] w λe w' =>∃v,e= .returned v/\aS w' w.heap.size v (aO s)/\ae w w' []:=by
 have HT:=zh (λw=>AA w s hs);unfold lI at HT;clear hs
 go_enter func101,ntmps101
 go_wp2_with fail
 refine(HT.o _).mono ?_;rintro e w' ⟨v,rfl,ho,hk⟩;have HO:=zh (And.intro ho hk);clear ho hk
 go_wp2_with fail
 go_ret;exact⟨v,rfl,HO.o.1,HO.o.2⟩
theorem tw (w:au)(n:Int)(h0:0<=n)(h1:n<=65535):Calls prog 102 #[.int .i64 n] w λe w' =>∃v,e= .returned v/\aS w' w.heap.size v (bA n)/\ae w w' []:=by
 obtain⟨n,rfl⟩:=Int.eq_ofNat_of_zero_le h0;have hn:n<=65535:=by omega
 have hq:(n:Int).tdiv 256=(n:Int) / 256:=zT (by omega);have hr:(n:Int).tmod 256=(n:Int) % 256:=rC (by omega);have hw:IntKind.u8.wrap ((n:Int) / 256)=(n:Int) / 256:=IntWalk.u8_in _ ⟨by omega,by omega⟩;have hw2:IntKind.u8.wrap ((n:Int) % 256)=(n:Int) % 256:=IntWalk.u8_in _ ⟨by omega,by omega⟩;have HS:=zh hn;clear h0 h1 hn
 go_enter func102,ntmps102
 have QS:wrap64 ((n:Int) / 256)=(n:Int) / 256:=by have:=HS.o;unfold wrap64;omega
 have hm:(n:Int) / 256 % 256=(n:Int) / 256:=by have:=HS.o;omega
 go_wp2_with fail
 go_ret;exact⟨_,rfl,Ef w n HS.o,ae.alloc _ _⟩
theorem fX (w:au)(b:Bool)(n:Nat):Calls prog 34 #[.bool b,.int .i64 n] w λe w' =>e= .returned (.int .i64 (g_ b n:Nat))/\ae w w' []:=by
 cases b with
 | true=>
  go_enter func34,ntmps34
  go_wp2_with fail
  go_ret;exact⟨rfl,ae.refl _ _⟩
 | false=>
  go_enter func34,ntmps34
  go_wp2_with fail
  go_ret;exact⟨rfl,ae.refl _ _⟩

/-- Bytes written so far, in memory of one's own. -/
structure iF (W0 W:au)(v:Value)(l:aG):Prop where
 own:aS W W0.heap.size v l
 k:ae W0 W []
theorem iF.ah {W0 W W1:au}{v:Value}{l:aG}(h:iF W0 W v l)(hk:ae W W1 []):iF W0 W1 v l:=⟨aM h.own hk (by simp),h.k.ah hk⟩
theorem iF.app {W0 W W2:au}{v v2:Value}{l l2:aG}(h:iF W0 W v l)(ho:aS W2 W0.heap.size v2 l2)(hk:ae W W2 v.ownBlock.toList):iF W0 W2 v2 l2:=⟨ho,h.k.trans hk (λx hx hlt=>by have:=(h.own.lt x (by simpa using hx)).1;omega)⟩
theorem iF.new {W0 W W1:au}{v:Value}{l:aG}(h0:ae W0 W [])(ho:aS W1 W.heap.size v l)(hk:ae W W1 []):iF W0 W1 v l:=⟨bR ho h0.size,h0.ah hk⟩
theorem DF (p:Pk)(X:Array Value)(sw sc sf:Value)(w:au)(hX:jA p X sw sc sf)(h3:p.k=3)(ht:p.t.length<=200)(hb:p.b.length<=2000)(hq:0<=p.q)(hi:0<=p.id/\p.id<=65535):
  Calls prog 35 #[.agg X] w λe w' =>∃v,e= .returned v/\aS w' w.heap.size v (bg p)/\ae w w' []:=by
 have HM:Hid (bg p=aO p.t++(dB (decide (0 < p.q)) (bA p.id)++p.b)):=zh (by unfold bg;rw[aj (by omega),aj (by omega),aE h3]);have HX:=zh hX;have HT:=zh (λw=>gD w p.t (by omega));have HW:=zh (λw=>tw w p.id hi.1 hi.2);have nA:=zh (show(aO p.t).length=2+p.t.length by simp[aO,aP]);have wF:=zh (show(bA p.id).length=2 by simp[bA,aP]);have zE:=zh (And.intro ht hb);obtain⟨W0,aV⟩:∃W0,w.alloc (.cells X 29)=W0:=⟨_,rfl⟩;have HR:=zh (show ae w W0 []/\Row W0 w.heap.size 29 X from by
  rw[<-aV];exact⟨ae.alloc _ _,Row.new _ _ _⟩)
 have c0:=HX.o.c0;rw[h3]at c0;have x0:=(HR.o.2.cell 0).trans c0;have x4:=(HR.o.2.cell 4).trans HX.o.c4;clear hX h3 ht hb hi c0
 go_enter func35,ntmps35
 go_upto_region 1 with fail
 try rw[aV]
 clear aV
 go_wp2_with fail
 refine(HT.o _).mono ?_;rintro e w' ⟨v,rfl,ho,hk⟩;have HB:=zh (iF.new (ae.refl W0 []) ho hk);have x3:=((HR.o.2.keeps hk).cell 3).trans HX.o.c3;clear ho hk x0 x4
 by_cases Fx:0 < p.q
 ·have Oe:decide (0 < p.q)=true:=bz Fx
  rw[Oe]at HM;have x6:=((HR.o.2.keeps HB.o.k).cell 6).trans HX.o.c6
  go_wp2_with fail
  clear x3 x6 Oe;refine(HW.o _).mono ?_;rintro e w2 ⟨u,rfl,p6,hk2⟩;have wG:=zh (HB.o.ah hk2);have HU:=zh (aS.bytes p6 (by rw[wF.o];decide));clear p6 hk2;have hbs:=wG.o.k.size
  go_wp2_with (at_builtin;refine aI _ rfl (.tmp 97) (.tmp 100) rfl W0.heap.size v u (aO p.t) (bA p.id) rfl rfl wG.o.own HU.o (by have:=zE.o;rw[nA.o,wF.o];omega) hbs ?_;intro A3 c3 w3 l3 E3 hl3 Oh hk3 Dv;refine Hid.o ?_)
  refine zh ?_;have FR:=zh (wG.o.app Oh hk3);have x5:=((HR.o.2.keeps FR.o.k).cell 5).trans HX.o.c5;have LR:=FR.o.k.size;have DV:=zh hl3;clear Oh hk3 Dv hbs hl3
  go_wp2_with (at_builtin;refine gS rfl (.tmp 102) (.tmp 104) rfl W0.heap.size (.slice A3 l3.length c3) l3 p.b rfl FR.o.own rfl (by have:=zE.o;have:=DV.o;have:=nA.o;have:=wF.o;omega) LR ?_;intro u2 w4 HA;refine Hid.o ?_)
  refine zh ?_;have Kq:=zh (FR.o.app HA.o.1 HA.o.2)
  go_wp2_with fail
  go_ret;exact⟨u2,rfl,by rw[HM.o,show dB true (bA p.id)=bA p.id from rfl,<-eK,<-E3.o];exact bR Kq.o.own HR.o.1.size,HR.o.1.ah Kq.o.k⟩
 ·have Oe:decide (0 < p.q)=false:=aZ Fx
  rw[Oe]at HM;have x5:=((HR.o.2.keeps HB.o.k).cell 5).trans HX.o.c5;have LR:=HB.o.k.size;clear Oe
  go_wp2_with (at_builtin;refine gS rfl (.tmp 102) (.tmp 104) rfl W0.heap.size v (aO p.t) p.b rfl HB.o.own rfl (by have:=zE.o;have:=nA.o;omega) LR ?_;intro u2 w4 HA;refine Hid.o ?_)
  refine zh ?_;have Kq:=zh (HB.o.app HA.o.1 HA.o.2)
  go_wp2_with fail
  go_ret;exact⟨u2,rfl,by rw[HM.o];exact bR Kq.o.own HR.o.1.size,HR.o.1.ah Kq.o.k⟩
theorem DG (p:Pk)(X:Array Value)(sw sc sf:Value)(w:au)(hX:jA p X sw sc sf)(h2:p.k=2)(hc:0<=p.code/\p.code<=5):
  Calls prog 35 #[.agg X] w λe w' =>∃v,e= .returned v/\aS w' w.heap.size v (bg p)/\ae w w' []:=by
 have HM:Hid (bg p=aX (g_ p.pr 1)++aX p.code.toNat):=zh (by unfold bg;rw[aj (by omega),aE h2]);have HX:=zh hX;have HO:=zh (show∀(w:au) (b:Bool),Calls prog 34 #[.bool b,.int .i64 1] w λe w' =>e= .returned (.int .i64 (g_ b 1:Nat))/\ae w w' []from λw b=>fX w b 1);obtain⟨W0,aV⟩:∃W0,w.alloc (.cells X 29)=W0:=⟨_,rfl⟩;have HR:=zh (show ae w W0 []/\Row W0 w.heap.size 29 X from by
  rw[<-aV];exact⟨ae.alloc _ _,Row.new _ _ _⟩)
 have c0:=HX.o.c0;rw[h2]at c0;obtain⟨c,hcc⟩:∃c:Nat,p.code=(c:Int):=⟨p.code.toNat,by omega⟩;have c20:=HX.o.c20;rw[hcc]at c20 HM hc;obtain⟨b,hb⟩:∃b,p.pr=b:=⟨_,rfl⟩;have c19:=HX.o.c19;rw[hb]at c19 HM;have x0:=(HR.o.2.cell 0).trans c0;have Si:=zh c19;have Sg:=zh c20;have K6:=zh hc;clear hX h2 hc c0 c19 c20 hcc hb
 go_enter func35,ntmps35
 go_upto_region 1 with fail
 try rw[aV]
 clear aV
 go_wp2_with fail
 have I3:=λ(W' :au) (hW:ae W0 W' [])=>((HR.o.2.keeps hW).cell 19).trans Si.o
 have I2:=λ(W' :au) (hW:ae W0 W' [])=>((HR.o.2.keeps hW).cell 20).trans Sg.o
 have hw:IntKind.u8.wrap (c:Int)=(c:Int):=IntWalk.u8_in _ ⟨by omega,by have:=K6.o;omega⟩;have hw2:IntKind.u8.wrap ((g_ b 1:Nat):Int)=((g_ b 1:Nat):Int):=IntWalk.u8_in _ ⟨by omega,by cases b <;> simp[g_]⟩;clear x0;refine aB _ (by kernel_rfl) rfl (by kernel_rfl) ?_;refine ls ?_;simp only[af];apply ak
 ·intro W vals hW ag
  simp only[knows]at ag
  try simp only[ai]at ag
  clear ag;have m:=I3 W hW;refine⟨?_⟩;simp only[fill];go_simp
  first | exact⟨ae.refl _ _,rfl⟩ | exact⟨ae.alloc _ _,rfl⟩
 simp only[af];apply ak
 ·intro W vals hW ag
  clear ag;refine⟨?_⟩;simp only[fill];go_simp;refine aC ?_;exact(HO.o W b).mono (by rintro e w3 ⟨rfl,hk⟩;exact⟨_,rfl,hk,rfl⟩)
 simp only[af];apply ak
 ·intro W vals hW ag
  simp only[knows]at ag
  try simp only[ai]at ag
  clear ag;refine⟨?_⟩;simp only[fill];go_simp
  first | exact⟨ae.refl _ _,rfl⟩ | exact⟨ae.alloc _ _,rfl⟩
 simp only[af];refine ls ?_;simp only[af];apply ak
 ·intro W vals hW ag
  simp only[knows]at ag
  try simp only[ai]at ag
  clear ag;have m:=I2 W hW;refine⟨?_⟩;simp only[fill];go_simp
  first | exact⟨ae.refl _ _,rfl⟩ | exact⟨ae.alloc _ _,rfl⟩
 simp only[af];apply ak
 ·intro W vals hW ag
  simp only[knows]at ag
  try simp only[ai]at ag
  clear ag;refine⟨?_⟩;simp only[fill];go_simp
  first | exact⟨ae.refl _ _,rfl⟩ | exact⟨ae.alloc _ _,rfl⟩
 simp only[af];refine bH (λv W' =>∃b',v= .slice (some ⟨b',0,none⟩) 2 2/\Row W' b' 5 #[.int .u8 (g_ b 1:Nat),.int .u8 c]/\W0.heap.size<=b') (λW vals hW ag φ' hφ=> ?_) ?_
 ·simp only[knows]at ag
  try simp only[ai]at ag
  clear ag;refine⟨?_⟩;simp only[fill];go_simp;exact⟨ae.alloc _ _,hφ.o _ _ ⟨_,rfl,Row.new _ _ _,hW.size⟩⟩
 simp only[af];refine bH (λv W' =>∃b',v= .slice (some ⟨b',0,none⟩) 2 2/\Row W' b' 5 #[.int .u8 (g_ b 1:Nat),.int .u8 c]/\W0.heap.size<=b') (λW vals hW ag φ' hφ=> ?_) ?_
 ·simp only[knows]at ag
  try simp only[ai]at ag
  obtain⟨W1,h0,h1,b',hv,hr,hb⟩:=ag (by decide);refine⟨?_⟩;simp only[fill];go_simp;exact⟨ae.refl _ _,hφ.o _ _ ⟨b',rfl,hr.keeps h1,hb⟩⟩
 simp only[af];refine aq (λW vals hW ag=> ?_);simp only[aw]at ag
 try simp only[ai]at ag
 simp only[fill,Act.put,bo,bn,bh];obtain⟨⟨W1,h0,h1,b',hv,hr,hb⟩,-⟩:=ag;rw[hv];have HF:=zh (And.intro (hr.keeps h1) (And.intro (cH HR.o.1.size hb) (HR.o.1.ah hW)));clear h0 h1 hv hr hb hW I3 I2 hw hw2
 go_wp2_with fail
 go_ret;refine⟨_,rfl, ?_,HF.o.2.2⟩;rw[HM.o];refine⟨by simp[aX,aP],.inr ⟨b',2,_,rfl,HF.o.2.1,HF.o.1,bE _,by simp[maxLen],rfl, ?_⟩⟩;have hc:=K6.o;have e1:aX (g_ b 1)= [UInt8.ofNat (g_ b 1)]:=by cases b <;> rfl
 have e2:aX (Int.toNat (c:Int))= [UInt8.ofNat c]:=by
  simp only[aX,dZ,fT]
  first
   | rfl
   | (simp;rw[zU (by omega)])
 have e3:((c % 256:Nat):Int)=(c:Int):=by omega
 rw[e1,e2]
 cases b <;> simp[bq,g_,e3]
theorem BJ (p:Pk)(X:Array Value)(sw sc sf:Value)(w:au)(hX:jA p X sw sc sf)(h:p.k=12\/p.k=13\/p.k=14):
  Calls prog 35 #[.agg X] w λe w' =>∃v,e= .returned v/\aS w' w.heap.size v (bg p)/\ae w w' []:=by
 have HM:Hid (bg p= []):=zh (by unfold bg;rw[aj (by omega),aj (by omega),aj (by omega),aj (by omega),aj (by omega),aj (by omega),aE h]);have c0:=hX.c0;clear hX;obtain⟨W0,aV⟩:∃W0,w.alloc (.cells X 29)=W0:=⟨_,rfl⟩;have HR:=zh (show ae w W0 []/\Row W0 w.heap.size 29 X from by
  rw[<-aV];exact⟨ae.alloc _ _,Row.new _ _ _⟩)
 have x0:=(HR.o.2.cell 0).trans c0;clear c0;obtain⟨k,hk⟩:∃k,p.k=k:=⟨_,rfl⟩;rw[hk]at x0 h;clear hk
 go_enter func35,ntmps35
 go_upto_region 1 with fail
 try rw[aV]
 clear aV
 rcases h with rfl | rfl | rfl
 all_goals
  go_wp2_with fail
  go_ret;exact⟨_,rfl,by rw[HM.o];exact⟨rfl,.inl ⟨rfl,rfl⟩⟩,HR.o.1⟩
end Go.Proofs.YtahbikfbjenfpaaGreatDoor
