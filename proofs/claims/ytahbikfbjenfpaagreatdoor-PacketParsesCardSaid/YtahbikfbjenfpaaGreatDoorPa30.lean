/- Package packet: how a connack is read, and all that is left. Package packet: how a publish is read. -/
import Derived.Test.YtahbikfbjenfpaaGreatDoorPa27
import Derived.Test.YtahbikfbjenfpaaGreatDoorPa29
set_option maxHeartbeats 4000000
set_option maxRecDepth 100000
namespace Go.Proofs.YtahbikfbjenfpaaGreatDoor
open Tryz Go.RowKit

theorem E8 (w:au)(base r:Nat)(f:Int)(l:aG)(h:Rd w base r l):
  Calls prog 57 #[.agg #[.pointer (some ⟨r,0,none⟩)],.int .i64 f] w (ni w base r (lj l)):=by
 have BV:=zh h.lt;obtain⟨W0,aV⟩:∃W0,w.alloc (.cells #[.pointer (some ⟨r,0,none⟩)] 74)=W0:=⟨_,rfl⟩;obtain⟨W1,hW1⟩:∃W1,W0.alloc (.cells eM 29)=W1:=⟨_,rfl⟩;have k0:ae w W0 []:=by rw[<-aV];exact ae.alloc _ _
 have k1:ae W0 W1 []:=by rw[<-hW1];exact ae.alloc _ _
 have s0:W0.heap.size=w.heap.size+1:=by rw[<-aV];simp
 have s1:W1.heap.size=w.heap.size+2:=by rw[<-hW1];simp[s0]
 have HB:=zh (show Row W1 w.heap.size 74 #[.pointer (some ⟨r,0,none⟩)]from(show Row W0 w.heap.size 74 #[.pointer (some ⟨r,0,none⟩)]by rw[<-aV];exact Row.new _ _ _).keeps k1);have HR:=zh (show Row W1 W0.heap.size 29 eM by rw[<-hW1];exact Row.new _ _ _);have HK:=zh (k0.ah k1);have HS:=zh (And.intro s0 s1);have iz:=zh ((h.keep k0 (by simp)).keep k1 (by simp));have c0:=HB.o.cell 0;simp only[cg,bU]at c0;clear k0 k1 s0 s1 h
 rcases hE:jv 1 l with _ | ⟨n,t⟩
 ·have HT:=zh (show lj l=none by unfold lj;rw[hE];rfl)
  have HE:=zh hE;clear hE
  go_enter func57,ntmps57
  go_wp2_with fail
  refine(gF (k' :=1) iz.o HE.o (by omega) (by omega) rfl).mono ?_;rintro e w3 ⟨hk,rfl⟩;exact⟨rfl,(HK.o.weaken (T:= [r]) (by simp)).trans hk (λ_ hx _=>hx),by rw[HT.o]⟩
 ·have HE:=zh hE
  clear hE
  by_cases hn:n<=1
  ·have hn1:decide ((n:Int)<=1)=true:=bz (by omega)
   obtain⟨z,hz⟩:∃z,((n:Int)==1)=z:=⟨_,rfl⟩;have HZ:=zh (show decide (n=1)=z by rw[<-hz,lP];simp;omega)
   rcases oC:jv 1 t with _ | ⟨c,u⟩
   ·have HT:=zh (show lj l=none by unfold lj;rw[HE.o,di,aE hn];simp only;rw[oC];rfl)
    have F5:=zh oC;clear oC hn
    go_enter func57,ntmps57
    go_wp2_with fail
    refine(eT iz.o HE.o).mono ?_;rintro e w3 ⟨hk,rfl,cS⟩;have fK:=zh hk;have BS:=zh cS;clear c0 hk cS aV hW1;have c0:=(HB.o.keep fK.o (by have:=BV.o;simp;omega)).cell 0;simp only[cg,bU]at c0
    go_wp2_with (go_at_call 30;refine(cz _).mono ?_;rintro e w' ⟨rfl,rfl⟩)
    refine(gF (k' :=1) BS.o F5.o (by omega) (by omega) rfl).mono ?_;rintro e w4 ⟨hk,rfl⟩;exact⟨rfl,((HK.o.weaken (T:= [r]) (by simp)).trans fK.o (λ_ hx _=>hx)).trans hk (λ_ hx _=>hx),by rw[HT.o]⟩
   ·have HT:=zh (show lj l=some ({bN with k:=2,pr:=z,code:=(c:Int)},u)by unfold lj;rw[HE.o,di,aE hn];simp only;rw[oC,di,HZ.o])
    have F5:=zh oC;clear oC hn
    go_enter func57,ntmps57
    go_wp2_with fail
    refine(eT iz.o HE.o).mono ?_;rintro e w3 ⟨hk,rfl,cS⟩;have fK:=zh hk;have BS:=zh cS;clear c0 hk cS aV hW1;have c0:=(HB.o.keep fK.o (by have:=BV.o;simp;omega)).cell 0;simp only[cg,bU]at c0
    go_wp2_with (go_at_call 30;refine(cz _).mono ?_;rintro e w' ⟨rfl,rfl⟩)
    refine(eT BS.o F5.o).mono ?_;rintro e w4 ⟨hk,rfl,cS⟩;have Qh:=zh (fK.o.trans hk (λ_ hx _=>hx));have RW:=zh cS;have RY:=zh (HR.o.keep Qh.o (by have:=BV.o;have:=HS.o;simp;omega));clear c0 hk cS
    go_wp2_with (refine wpList_store_row rfl (.tmp 4) (.tmp 15) 29 rfl W0.heap.size (zP 0 false false 0 [] [] 0 [] false 0 false [] [] 0 false false false [] [] z (c:Nat) aN aN aN) eM RY.o (by kernel_rfl) rfl (by simp[Value.oneCell']) rfl rfl ?_;intro w7 r7 k7;refine Hid.o ?_)
    refine zh ?_;have ku:=zh r7;have kr:=zh (RW.o.far k7 (λx hx=>by have:=BV.o;have:=HS.o;simp at hx;omega));have iN:=zh (((HK.o.weaken (T:= [r]) (by simp)).trans Qh.o (λ_ hx _=>hx)).trans k7 (λx hx hlt=>by have:=HS.o;simp at hx;omega));clear r7 k7
    go_wp2_with fail
    obtain⟨d,hu,hd⟩:=cI;refine bD (aW (s:=4) (cs:=(zL 0 false false 0 [] [] 0 [] false 0 false [] [] 0 false false false [] [] z (c:Nat) aN aN aN)) rfl rfl (aD ku.o) hu hd (by kernel_rfl)) rfl ⟨iN.o, ?_⟩;rw[HT.o];exact⟨_,_,_,rfl,jz.empty rfl rfl rfl,kr.o⟩
  ·have hn1:decide ((n:Int)<=1)=false:=aZ (by omega)
   have HT:=zh (show lj l=none by unfold lj;rw[HE.o,di,aj hn]);clear hn
   go_enter func57,ntmps57
   go_wp2_with fail
   refine(eT iz.o HE.o).mono ?_;rintro e w3 ⟨hk,rfl,cS⟩;have fK:=zh hk;clear c0 hk cS aV hW1
   go_wp2_with (go_at_call 30;refine(bK _).mono ?_;rintro e w' ⟨rfl,rfl⟩)
   exact⟨rfl,(HK.o.weaken (T:= [r]) (by simp)).trans fK.o (λ_ hx _=>hx),by rw[HT.o]⟩
theorem Gy (a:UInt8)(u:aG):jv 1 (a::u)=some (a.toNat,u):=by
 unfold jv;rw[aE (by simp)];simp[qw]
/-- All that is left. -/
theorem vL (w:au)(base r:Nat)(l:aG)(h:Rd w base r l)(hl:l.length<=100000):
  Calls prog 138 #[.agg #[.pointer (some ⟨r,0,none⟩)]] w λe w' =>ae w w' [r]/\e= .returned (.string ⟨l.toArray⟩)/\Rd w' base r []:=by
 obtain⟨W0,aV⟩:∃W0,w.alloc (.cells #[.pointer (some ⟨r,0,none⟩)] 74)=W0:=⟨_,rfl⟩;have k0:ae w W0 []:=by rw[<-aV];exact ae.alloc _ _
 have HB:=zh (show Row W0 w.heap.size 74 #[.pointer (some ⟨r,0,none⟩)]by rw[<-aV];exact Row.new _ _ _);have jM:=zh k0;have FO:=zh (h.keep k0 (by simp));have oe:=zh h.lt;clear k0 h
 go_enter func138,ntmps138
 go_wp2_with fail
 clear aV
 go_loopw [3] (λv wr=>∃(d t:aG),Hid ((aS wr W0.heap.size v d/\Rd wr base r t)/\ae W0 wr [r]/\l=d++t)/\d.length+t.length<=l.length) (λ_ wr=>lh wr r)
 case atStart=>exact⟨[],l,zh ⟨⟨xw _ _ _ _,FO.o⟩,ae.refl _ _,rfl⟩,by simp⟩
 case round=>
  obtain⟨d,t,HJ,Nb⟩:=hrel;have c0:=(HB.o.keep HJ.o.2.1 (by have:=oe.o;simp;omega)).cell 0;simp only[cg,bU]at c0;obtain⟨A,c,rfl,_⟩:=HJ.o.1.1.parts
  go_wp2_with fail
  refine(dm _ _ _ _ HJ.o.1.2).mono ?_;rintro e w2 ⟨rfl,rfl⟩
  rcases t with _ | ⟨x,u⟩
  ·have iA:=dO wr _ A c d (HJ.o.1.1.bytes (by simp at Nb;omega)).lies
   have HD:=zh (show l=d by have:=HJ.o.2.2;rwa [dJ]at this)
   go_wp2_with fail
   go_ret;refine⟨(jM.o.weaken (T:= [r]) (by simp)).trans HJ.o.2.1 (λ_ hx _=>hx), ?_,HJ.o.1.2⟩;rw[HD.o];rfl
  ·have hgt:0 < (x::u).length:=by simp
   have PL:=x.toNat_lt;have hwx:IntKind.u8.wrap (x.toNat:Int)=(x.toNat:Int):=IntWalk.u8_in _ ⟨by omega,by omega⟩
   go_wp2_with fail
   refine(eT HJ.o.1.2 (Gy x u)).mono ?_;rintro e w3 ⟨hk3,rfl,cS⟩;have HA:=zh (And.intro (aM HJ.o.1.1 hk3 (λg hg hm=>by have:=(HJ.o.1.1.lt g hg).1;have:=oe.o;have:=jM.o.size;simp at hm;omega)) (And.intro cS (HJ.o.2.1.trans hk3 (λ_ hx _=>hx))));have hs3:=hk3.size;clear hk3 cS c0;obtain⟨Wb,fg⟩:∃Wb,w3.alloc (.cells #[.int .u8 (x.toNat:Nat)] 5)=Wb:=⟨_,rfl⟩;have kb:ae w3 Wb []:=by rw[<-fg];exact ae.alloc _ _
   have rb:Bytes Wb Wb.heap.size (.slice (some ⟨w3.heap.size,0,none⟩) 1 1) [x]:=by rw[<-fg];exact sK w3 x
   have uE:=zh (And.intro (aM HA.o.1 kb (by simp)) (And.intro rb (And.intro (HA.o.2.1.keep kb (by simp)) (HA.o.2.2.ah kb))));have hbs:W0.heap.size<=Wb.heap.size:=uE.o.2.2.2.size;clear kb rb
   go_wp2_with (at_builtin;refine Hid.o ?_)
   refine zh ?_;refine aI _ rfl (.tmp 8) (.tmp 12) rfl W0.heap.size (.slice A d.length c) (.slice (some ⟨w3.heap.size,0,none⟩) 1 1) d [x] rfl rfl uE.o.1 uE.o.2.1 (by simp at Nb ⊢;omega) hbs ?_;intro A7 c7 w7 l7 E7 qq mq kf qu;have iV:∀g∈(Value.slice A d.length c).ownBlock.toList,W0.heap.size<=g:=λg hg=>(uE.o.1.lt g (by simpa using hg)).1
   have ku:=zh (uE.o.2.2.1.far kf (λg hg=>by have:=iV g hg;have:=oe.o;have:=jM.o.size;omega));have iN:=zh (uE.o.2.2.2.trans kf (λg hg hlt=>absurd (iV g hg) (by omega)));have uD:=zh mq;have Es:=zh E7.o;clear mq kf qu iV fg E7
   go_wp2_with fail
   refine⟨⟨l7,u,zh ⟨⟨uD.o,ku.o⟩,iN.o, ?_⟩,by simp at qq Nb ⊢;omega⟩, ?_⟩
   ·rw[Es.o,eK]
    exact HJ.o.2.2
   ·rw[ku.o.lh,HJ.o.1.2.lh]
    simp

theorem GA:∀f:Fin 16,decide (0 < bits BinOp.and IntKind.i64 ((f.val:Nat):Int) 8)=aH f.val 8/\decide (0 < bits BinOp.and IntKind.i64 ((f.val:Nat):Int) 1)=aH f.val 1/\bits BinOp.and IntKind.i64 (((f.val:Nat):Int) / 2) 3=((f.val / 2 % 4:Nat):Int):=by decide+kernel
/-- What is known of a reading: the reader's box, the result's, the packet's. -/
structure tO (w W:au)(base r A R G:Nat)(X:Array Value)(l:aG):Prop where
 k:ae w W [r]
 b:Row W A 74 #[.pointer (some ⟨r,0,none⟩)]
 rr:Row W R 29 eM
 g:Row W G 29 X
 rd:Rd W base r l
 o:r < A/\A < R/\R < G/\w.heap.size<=A
section
variable {w W W' :au} {base r A R G:Nat} {X:Array Value} {l t:aG}
theorem tO.put (h:tO w W base r A R G X l)(i:Nat)(v:Value):tO w (W.setCell ⟨G,i,none⟩ v) base r A R G (X.setIfInBounds i v) l:=by
 have hk:ae W (W.setCell ⟨G,i,none⟩ v) [G]:=ae.setCell _ _ _;obtain⟨o1,o2,o3,o4⟩:=h.o;exact⟨h.k.trans hk (λx hx hlt=>by simp at hx;omega),h.b.keep hk (by simp;omega),h.rr.keep hk (by simp;omega),h.g.store i v,h.rd.far hk (λx hx=>by simp at hx;omega),h.o⟩
theorem tO.read (h:tO w W base r A R G X l)(hk:ae W W' [r])(hr:Rd W' base r t):tO w W' base r A R G X t:=by
 obtain⟨o1,o2,o3,o4⟩:=h.o;exact⟨h.k.trans hk (λ_ hx _=>hx),h.b.keep hk (by simp;omega),h.rr.keep hk (by simp;omega),h.g.keep hk (by simp;omega),hr,h.o⟩
theorem tO.keeps (h:tO w W base r A R G X l)(hk:ae W W' []):tO w W' base r A R G X l:=
 h.read (hk.weaken (by simp)) (h.rd.keep hk (by simp))
end
theorem E0 (w:au)(base r:Nat)(f:Nat)(l:aG)(h:Rd w base r l)(hl:l.length<=100000)(hf:f < 16):
  Calls prog 137 #[.agg #[.pointer (some ⟨r,0,none⟩)],.int .i64 (f:Nat)] w (ni w base r (mh f l)):=by
 obtain⟨e8,e1,e3⟩:decide (0 < bits BinOp.and IntKind.i64 ((f:Nat):Int) 8)=aH f 8/\decide (0 < bits BinOp.and IntKind.i64 ((f:Nat):Int) 1)=aH f 1/\bits BinOp.and IntKind.i64 (((f:Nat):Int) / 2) 3=((f / 2 % 4:Nat):Int):=GA ⟨f,hf⟩;have HD:=zh (show mh f l=(cQ l).bind λt=>if 0 < f / 2 % 4 then(jv 2 t.2).bind λi=>some ({bN with k:=3,dup:=aH f 8,ret:=aH f 1,q:=(f / 2 % 4:Nat),t:=t.1,id:=(i.1:Int),b:=i.2}, [])
  else some ({bN with k:=3,dup:=aH f 8,ret:=aH f 1,q:=(f / 2 % 4:Nat),t:=t.1,b:=t.2}, [])from rfl)
 generalize aH f 8=B8 at e8 HD
 generalize aH f 1=B1 at e1 HD
 generalize f / 2 % 4=Q at e3 HD
 have BV:=zh h.lt;obtain⟨W0,aV⟩:∃W0,w.alloc (.cells #[.pointer (some ⟨r,0,none⟩)] 74)=W0:=⟨_,rfl⟩;obtain⟨W1,hW1⟩:∃W1,W0.alloc (.cells eM 29)=W1:=⟨_,rfl⟩;have k0:ae w W0 []:=by rw[<-aV];exact ae.alloc _ _
 have k1:ae W0 W1 []:=by rw[<-hW1];exact ae.alloc _ _
 have s0:W0.heap.size=w.heap.size+1:=by rw[<-aV];simp
 have s1:W1.heap.size=w.heap.size+2:=by rw[<-hW1];simp[s0]
 have HB:=zh (show Row W1 w.heap.size 74 #[.pointer (some ⟨r,0,none⟩)]from(show Row W0 w.heap.size 74 #[.pointer (some ⟨r,0,none⟩)]by rw[<-aV];exact Row.new _ _ _).keeps k1);have HR:=zh (show Row W1 W0.heap.size 29 eM by rw[<-hW1];exact Row.new _ _ _);have HK:=zh (k0.ah k1);have HS:=zh (And.intro s0 s1);have iz:=zh ((h.keep k0 (by simp)).keep k1 (by simp));have c0:=HB.o.cell 0;simp only[cg,bU]at c0;clear k0 k1 s0 s1 h hf
 rcases hE:cQ l with _ | ⟨s,V1⟩
 ·have HT:=zh (show mh f l=none by rw[HD.o,hE];rfl)
  have HE:=zh hE;clear hE
  go_enter func137,ntmps137
  go_wp2_with fail
  refine(eI iz.o HE.o).mono ?_;rintro e w3 ⟨hk,rfl⟩;exact⟨rfl,(HK.o.weaken (T:= [r]) (by simp)).trans hk (λ_ hx _=>hx),by rw[HT.o]⟩
 ·have HE:=zh hE
  have Pf:=zh (show V1.length<=100000 by have:=(eH hE).2.2;omega);have I6:=zh (HD.o.trans (by rw[hE]));clear hE
  go_enter func137,ntmps137
  go_wp2_with fail
  refine(da iz.o HE.o).mono ?_;rintro e w3 ⟨hk,rfl,cS⟩;unfold lI;have fK:=zh hk;have BS:=zh cS;clear hk cS aV hW1 c0;obtain⟨W4,KK⟩:∃W4,w3.alloc (.cells eM 29)=W4:=⟨_,rfl⟩
  go_wp2_with (refine aQ rfl (.tmp 5) (.tmp 17) rfl (zP 0 B8 B1 (Q:Nat) s [] 0 [] false 0 false [] [] 0 false false false [] [] false 0 aN aN aN) eM w3 KK.symm (by kernel_rfl) rfl (by simp[Value.oneCell']) rfl rfl ?_;intro w5 iy)
  refine zh ?_;have q9:Row w5 w3.heap.size 29 (zP 0 B8 B1 (Q:Nat) s [] 0 [] false 0 false [] [] 0 false false false [] [] false 0 aN aN aN):=by rw[<-iy];exact Row.new _ _ _
  have k9:ae w3 w5 []:=by rw[<-iy];exact ae.alloc _ _
  obtain⟨G,hG⟩:∃G,w3.heap.size=G:=⟨_,rfl⟩;have UJ:w.heap.size+2<=G:=by have:=fK.o.size;have:=HS.o.2;omega
  have tR:=zh (show ae W1 w5 [r]from fK.o.trans k9 (by simp));rw[hG]at q9 ⊢
  have ST:=zh (show tO w w5 base r w.heap.size W0.heap.size G (zP 0 B8 B1 (Q:Nat) s [] 0 [] false 0 false [] [] 0 false false false [] [] false 0 aN aN aN) V1 from⟨(HK.o.weaken (T:= [r]) (by simp)).trans tR.o (λ_ hx _=>hx),HB.o.keep tR.o (by have:=BV.o;simp;omega),HR.o.keep tR.o (by have:=BV.o;have:=HS.o;simp;omega),q9,BS.o.keep k9 (by simp),by have:=BV.o;have:=HS.o;omega⟩);clear k9 KK q9 iy hG UJ tR BS fK HB HR iz HK;have g3:=ST.o.g.cell 3;simp only[cg,bU,fe]at g3
  by_cases hq:0 < Q
  ·rcases oC:jv 2 V1 with _ | ⟨n,V2⟩
   ·have HT:=zh (show mh f l=none by rw[I6.o,di,aE hq];simp only;rw[oC];rfl)
    have F5:=zh oC;have c0:=ST.o.b.cell 0;simp only[cg,bU]at c0;clear oC
    go_wp2_with fail
    refine(gF (k' :=2) ST.o.rd F5.o (by omega) (by omega) rfl).mono ?_;rintro e w6 ⟨hk,rfl⟩;exact⟨rfl,ST.o.k.trans hk (λ_ hx _=>hx),by rw[HT.o]⟩
   ·have HT:=zh (show mh f l=some ({bN with k:=3,dup:=B8,ret:=B1,q:=(Q:Nat),t:=s,id:=(n:Int),b:=V2}, [])by rw[I6.o,di,aE hq];simp only;rw[oC];rfl)
    have R6:=zh (show V2.length<=100000 by have:=(bJ oC).2.2;have:=Pf.o;omega);have F5:=zh oC;have c0:=ST.o.b.cell 0;simp only[cg,bU]at c0;clear oC
    go_wp2_with fail
    refine(mn ST.o.rd F5.o).mono ?_;rintro e w6 ⟨hk,rfl,cS⟩;have uz:=zh (ST.o.read hk cS);have f6:=uz.o.g.frozen 6;have g6:=uz.o.g.cell 6;simp only[cg,bU,fe]at g6;clear c0 hk cS g3 ST hq
    go_upto_region 4 with fail
    obtain⟨W7,FV⟩:∃W7,w6.setCell ⟨G,6,none⟩ (.int .i64 (n:Nat))=W7:=⟨_,rfl⟩;have ST:=zh (show tO w W7 base r w.heap.size W0.heap.size G (zP 0 B8 B1 (Q:Nat) s [] (n:Nat) [] false 0 false [] [] 0 false false false [] [] false 0 aN aN aN) V2 by rw[<-FV];exact uz.o.put 6 _);rw[FV];clear FV f6 g6 uz;have c0:=ST.o.b.cell 0;simp only[cg,bU]at c0
    go_wp2_with fail
    refine(vL _ base r V2 ST.o.rd R6.o).mono ?_;rintro e w8 ⟨pG,rfl,G6⟩;have uz:=zh (ST.o.read pG G6);have f5:=uz.o.g.frozen 5;have g5:=uz.o.g.cell 5;simp only[cg,bU,fe]at g5;clear c0 pG G6
    go_upto_region 5 with fail
    obtain⟨W9,L0⟩:∃W9,w8.setCell ⟨G,5,none⟩ (.string ⟨V2.toArray⟩)=W9:=⟨_,rfl⟩;have yo:=zh (show tO w W9 base r w.heap.size W0.heap.size G (zP 0 B8 B1 (Q:Nat) s V2 (n:Nat) [] false 0 false [] [] 0 false false false [] [] false 0 aN aN aN) []by rw[<-L0];exact uz.o.put 5 _);rw[L0];clear L0 f5 g5;refine av ax _ 1 rfl (by kernel_rfl) (by kernel_rfl) (λ_=>ae.refl _ _) (λ_ _ _ h k=>h.trans k (by simp)) ?_;simp only[dc,dg,dF,dK];refine lw 29 (.tmp 5) (G) ((zL 0 B8 B1 (Q:Nat) s V2 (n:Nat) [] false 0 false [] [] 0 false false false [] [] false 0 aN aN aN)) underlying29 (λW hW=>aD (yo.o.g.keeps hW)) ?_;refine aq (λW vals hW ag=> ?_);simp only[af,aw]at ag
    try simp only[ai]at ag
    simp only[af,fill,Act.put,bo,bn,bh];clear ag;have Ij:=zh (yo.o.keeps hW);clear hW;refine wpList_store_row rfl (.tmp 4) (.tmp 27) 29 rfl W0.heap.size (zP 0 B8 B1 (Q:Nat) s V2 (n:Nat) [] false 0 false [] [] 0 false false false [] [] false 0 aN aN aN) eM Ij.o.rr (by kernel_rfl) rfl (by simp[Value.oneCell']) rfl rfl ?_;intro w7 r7 k7;have ku:=zh r7;have kr:=zh (Ij.o.rd.far k7 (λx hx=>by have:=Ij.o.o;simp at hx;omega));have iN:=zh (Ij.o.k.trans k7 (λx hx hlt=>by have:=Ij.o.o;simp at hx;omega));clear r7 k7
    go_wp2_with fail
    obtain⟨d,hu,hd⟩:=cI;refine bD (aW (s:=4) (cs:=(zL 0 B8 B1 (Q:Nat) s V2 (n:Nat) [] false 0 false [] [] 0 false false false [] [] false 0 aN aN aN)) rfl rfl (aD ku.o) hu hd (by kernel_rfl)) rfl ⟨iN.o, ?_⟩;rw[HT.o];exact⟨_,_,_,rfl,jz.empty rfl rfl rfl,kr.o⟩
  ·have HT:=zh (show mh f l=some ({bN with k:=3,dup:=B8,ret:=B1,q:=(Q:Nat),t:=s,b:=V1}, [])by rw[I6.o,di,aj hq])
   have R6:=Pf
   go_upto_region 4 with fail
   clear g3 hq;have c0:=ST.o.b.cell 0;simp only[cg,bU]at c0
   go_wp2_with fail
   refine(vL _ base r V1 ST.o.rd R6.o).mono ?_;rintro e w8 ⟨pG,rfl,G6⟩;have uz:=zh (ST.o.read pG G6);have f5:=uz.o.g.frozen 5;have g5:=uz.o.g.cell 5;simp only[cg,bU,fe]at g5;clear c0 pG G6
   go_upto_region 5 with fail
   obtain⟨W9,L0⟩:∃W9,w8.setCell ⟨G,5,none⟩ (.string ⟨V1.toArray⟩)=W9:=⟨_,rfl⟩;have yo:=zh (show tO w W9 base r w.heap.size W0.heap.size G (zP 0 B8 B1 (Q:Nat) s V1 0 [] false 0 false [] [] 0 false false false [] [] false 0 aN aN aN) []by rw[<-L0];exact uz.o.put 5 _);rw[L0];clear L0 f5 g5;refine av ax _ 1 rfl (by kernel_rfl) (by kernel_rfl) (λ_=>ae.refl _ _) (λ_ _ _ h k=>h.trans k (by simp)) ?_;simp only[dc,dg,dF,dK];refine lw 29 (.tmp 5) (G) ((zL 0 B8 B1 (Q:Nat) s V1 0 [] false 0 false [] [] 0 false false false [] [] false 0 aN aN aN)) underlying29 (λW hW=>aD (yo.o.g.keeps hW)) ?_;refine aq (λW vals hW ag=> ?_);simp only[af,aw]at ag
   try simp only[ai]at ag
   simp only[af,fill,Act.put,bo,bn,bh];clear ag;have Ij:=zh (yo.o.keeps hW);clear hW;refine wpList_store_row rfl (.tmp 4) (.tmp 27) 29 rfl W0.heap.size (zP 0 B8 B1 (Q:Nat) s V1 0 [] false 0 false [] [] 0 false false false [] [] false 0 aN aN aN) eM Ij.o.rr (by kernel_rfl) rfl (by simp[Value.oneCell']) rfl rfl ?_;intro w7 r7 k7;have ku:=zh r7;have kr:=zh (Ij.o.rd.far k7 (λx hx=>by have:=Ij.o.o;simp at hx;omega));have iN:=zh (Ij.o.k.trans k7 (λx hx hlt=>by have:=Ij.o.o;simp at hx;omega));clear r7 k7
   go_wp2_with fail
   obtain⟨d,hu,hd⟩:=cI;refine bD (aW (s:=4) (cs:=(zL 0 B8 B1 (Q:Nat) s V1 0 [] false 0 false [] [] 0 false false false [] [] false 0 aN aN aN)) rfl rfl (aD ku.o) hu hd (by kernel_rfl)) rfl ⟨iN.o, ?_⟩;rw[HT.o];exact⟨_,_,_,rfl,jz.empty rfl rfl rfl,kr.o⟩
end Go.Proofs.YtahbikfbjenfpaaGreatDoor
