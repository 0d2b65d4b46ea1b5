/- Package packet: how a connect is read. -/
import Derived.Test.YtahbikfbjenfpaaGreatDoorPa30
set_option maxHeartbeats 16000000
set_option maxRecDepth 100000
namespace Go.Proofs.YtahbikfbjenfpaaGreatDoor
open Tryz Go.RowKit

theorem Hq:∀f:Fin 256,(decide (0 < bits BinOp.and IntKind.i64 ((f.val:Nat):Int) 128)=aH f.val 128/\decide (0 < bits BinOp.and IntKind.i64 ((f.val:Nat):Int) 64)=aH f.val 64/\decide (0 < bits BinOp.and IntKind.i64 ((f.val:Nat):Int) 32)=aH f.val 32)/\(decide (0 < bits BinOp.and IntKind.i64 ((f.val:Nat):Int) 4)=aH f.val 4/\decide (0 < bits BinOp.and IntKind.i64 ((f.val:Nat):Int) 2)=aH f.val 2)/\bits BinOp.and IntKind.i64 (((f.val:Nat):Int) / 8) 3=((f.val / 8 % 4:Nat):Int):=by decide+kernel
/-- What is known of a reading: the reader's box, the packet's. -/
structure om (w W:au)(base r B G:Nat)(X:Array Value)(l:aG):Prop where
 k:ae w W [r]
 b:Row W B 74 #[.pointer (some ⟨r,0,none⟩)]
 g:Row W G 29 X
 rd:Rd W base r l
 o:r < B/\B < G/\w.heap.size<=B
section
variable {w W W' :au} {base r B G:Nat} {X:Array Value} {l t:aG}
theorem om.put (h:om w W base r B G X l)(i:Nat)(v:Value):om w (W.setCell ⟨G,i,none⟩ v) base r B G (X.setIfInBounds i v) l:=by
 have hk:ae W (W.setCell ⟨G,i,none⟩ v) [G]:=ae.setCell _ _ _;obtain⟨o1,o2,o3⟩:=h.o;exact⟨h.k.trans hk (λx hx hlt=>by simp at hx;omega),h.b.keep hk (by simp;omega),h.g.store i v,h.rd.far hk (λx hx=>by simp at hx;omega),h.o⟩
theorem om.read (h:om w W base r B G X l)(hk:ae W W' [r])(hr:Rd W' base r t):om w W' base r B G X t:=by
 obtain⟨o1,o2,o3⟩:=h.o;exact⟨h.k.trans hk (λ_ hx _=>hx),h.b.keep hk (by simp;omega),h.g.keep hk (by simp;omega),hr,h.o⟩
theorem om.keeps (h:om w W base r B G X l)(hk:ae W W' []):om w W' base r B G X l:=
 h.read (hk.weaken (by simp)) (h.rd.keep hk (by simp))
end
def U4 (f kp:Nat)(c wt wb u l:aG):Option (Pk×aG):=(jj (aH f 64) l).bind λpw=>if cM (nU f)=f then some (iE f kp c wt wb u pw.1,pw.2)else none
def U5 (f kp:Nat)(c wt wb l:aG):Option (Pk×aG):=(jj (aH f 128) l).bind λu=>U4 f kp c wt wb u.1 u.2
def Tq (f kp:Nat)(c l:aG):Option (Pk×aG):=(jj (aH f 4) l).bind λwt=>(jj (aH f 4) wt.2).bind λwb=>U5 f kp c wt.1 wb.1 wb.2
theorem ep (l:aG):jj true l=cQ l:=rfl
theorem ml (l:aG):jj false l=some ([],l):=rfl
theorem E9 (w:au)(base r:Nat)(fl:Int)(l:aG)(h:Rd w base r l):
  Calls prog 131 #[.agg #[.pointer (some ⟨r,0,none⟩)],.int .i64 fl] w (ni w base r (uc l)):=by
 have HD:=zh (show uc l=(cQ l).bind λm=>if m.1=Fe then(jv 1 m.2).bind λv=>if v.1=4 then nK v.2 else none else none from rfl)
 generalize uc l=X at HD ⊢
 have BV:=zh h.lt;obtain⟨W0,aV⟩:∃W0,w.alloc (.cells #[.pointer (some ⟨r,0,none⟩)] 74)=W0:=⟨_,rfl⟩;obtain⟨W1,hW1⟩:∃W1,W0.alloc (.cells eM 29)=W1:=⟨_,rfl⟩;have k0:ae w W0 []:=by rw[<-aV];exact ae.alloc _ _
 have k1:ae W0 W1 []:=by rw[<-hW1];exact ae.alloc _ _
 have s0:W0.heap.size=w.heap.size+1:=by rw[<-aV];simp
 have s1:W1.heap.size=w.heap.size+2:=by rw[<-hW1];simp[s0]
 have HB:=zh (show Row W1 w.heap.size 74 #[.pointer (some ⟨r,0,none⟩)]from(show Row W0 w.heap.size 74 #[.pointer (some ⟨r,0,none⟩)]by rw[<-aV];exact Row.new _ _ _).keeps k1);have HR:=zh (show Row W1 W0.heap.size 29 eM by rw[<-hW1];exact Row.new _ _ _);have HK:=zh (k0.ah k1);have HS:=zh (And.intro s0 s1);have iz:=zh ((h.keep k0 (by simp)).keep k1 (by simp));have c0:=HB.o.cell 0;simp only[cg,bU]at c0;have ST:=zh (show om w W1 base r w.heap.size W0.heap.size eM l from⟨HK.o.weaken (by simp),HB.o,HR.o,iz.o,by have:=BV.o;have:=HS.o;omega⟩);clear k0 k1 s0 s1 h HK HB HR iz;have Vu:=zh (show X=X from rfl);clear Vu
 rcases wi:cQ l with _ | ⟨m,V1⟩
 ·have HT:=zh (show X=none by rw[HD.o,wi];rfl)
  have HE:=zh wi;clear wi
  go_enter func131,ntmps131
  go_wp2_with fail
  refine(eI ST.o.rd HE.o).mono ?_;rintro e w3 ⟨hk,rfl⟩;exact⟨rfl,ST.o.k.trans hk (λ_ hx _=>hx),by rw[HT.o]⟩
 by_cases hm:m= [77,81,84,84]
 case neg=>
  have HT:=zh (show X=none by rw[HD.o,wi,di,aj (show¬(m,V1).1=Fe from hm)]);have HE:=zh wi;have sZ:(m== [77,81,84,84])=false:=by simpa using hm
  clear wi hm
  go_enter func131,ntmps131
  go_wp2_with fail
  refine(da ST.o.rd HE.o).mono ?_;rintro e w3 ⟨hk,rfl,cS⟩;unfold lI;have je:=zh (ST.o.read hk cS);clear hk cS c0
  go_wp2_with (go_at_call 30;refine(bK _).mono ?_;rintro e w' ⟨rfl,rfl⟩)
  exact⟨rfl,je.o.k,by rw[HT.o]⟩
 subst hm;have Qk:=zh (show X=(jv 1 V1).bind λv=>if v.1=4 then nK v.2 else none by rw[HD.o,wi,di,aE (show([77,81,84,84]:aG)=Fe from rfl)]);have Se:=zh wi;clear wi HD
 rcases oC:jv 1 V1 with _ | ⟨v,V2⟩
 ·have HT:=zh (show X=none by rw[Qk.o,oC];rfl)
  have HE:=zh oC;clear oC
  go_enter func131,ntmps131
  go_wp2_with fail
  refine(da ST.o.rd Se.o).mono ?_;rintro e w3 ⟨hk,rfl,cS⟩;unfold lI;have je:=zh (ST.o.read hk cS);clear hk cS c0 aV hW1;have c0:=je.o.b.cell 0;simp only[cg,bU]at c0
  go_wp2_with fail
  refine(gF (k' :=1) je.o.rd HE.o (by omega) (by omega) rfl).mono ?_;rintro e w3 ⟨hk,rfl⟩;exact⟨rfl,je.o.k.trans hk (λ_ hx _=>hx),by rw[HT.o]⟩
 have F5:=zh oC
 by_cases hv:v=4
 case neg=>
  have HT:=zh (show X=none by rw[Qk.o,oC,di,aj hv]);have hvb:((v:Int)==4)=false:=by simp;omega
  clear oC hv
  go_enter func131,ntmps131
  go_wp2_with fail
  refine(da ST.o.rd Se.o).mono ?_;rintro e w3 ⟨hk,rfl,cS⟩;unfold lI;have je:=zh (ST.o.read hk cS);clear hk cS c0 aV hW1;have c0:=je.o.b.cell 0;simp only[cg,bU]at c0
  go_wp2_with fail
  refine(eT je.o.rd F5.o).mono ?_;rintro e w3 ⟨hk,rfl,cS⟩;have uz:=zh (je.o.read hk cS);clear hk cS c0
  go_wp2_with (go_at_call 30;refine(bK _).mono ?_;rintro e w' ⟨rfl,rfl⟩)
  exact⟨rfl,uz.o.k,by rw[HT.o]⟩
 subst hv;have I6:=zh (show X=nK V2 by rw[Qk.o,oC,di,aE rfl]);clear oC Qk
 go_enter func131,ntmps131
 go_wp2_with fail
 refine(da ST.o.rd Se.o).mono ?_;rintro e w3 ⟨hk,rfl,cS⟩;unfold lI;have je:=zh (ST.o.read hk cS);clear hk cS c0 aV hW1;have c0:=je.o.b.cell 0;simp only[cg,bU]at c0
 go_wp2_with fail
 refine(eT je.o.rd F5.o).mono ?_;rintro e w4 ⟨hk,rfl,cS⟩;have uz:=zh (je.o.read hk cS);clear hk cS c0;have c0:=uz.o.b.cell 0;simp only[cg,bU]at c0
 go_wp2_with (go_at_call 30;refine(cz _).mono ?_;rintro e w' ⟨rfl,rfl⟩)
 rcases Nh:jv 1 V2 with _ | ⟨f,V3⟩
 ·have HT:=zh (show X=none by rw[I6.o];unfold nK;rw[Nh];rfl)
  refine(gF (k' :=1) uz.o.rd Nh (by omega) (by omega) rfl).mono ?_;rintro e w3 ⟨hk,rfl⟩;exact⟨rfl,uz.o.k.trans hk (λ_ hx _=>hx),by rw[HT.o]⟩
 have hf:=(bJ Nh).2.1;have Qj:=zh (show X=(jv 2 V3).bind λkp=>(cQ kp.2).bind λc=>Tq f kp.1 c.1 c.2 by rw[I6.o];unfold nK;rw[Nh];rfl);refine(eT uz.o.rd Nh).mono ?_;rintro e w5 ⟨hk,rfl,cS⟩;have yo:=zh (uz.o.read hk cS);clear hk cS c0 Nh I6;obtain⟨CV,Rt⟩:∃CV,cM (nU f)=CV:=⟨_,rfl⟩;have uQ:=zh (show∀(c:aG) (kp:Int) (wt wb u pw:aG),cM ⟨0,false,false,0, [], [],0,c,aH f 2,kp,aH f 4,wt,wb,(f / 8 % 4:Nat),aH f 32,aH f 128,aH f 64,u,pw,false,0, [], [], []⟩=CV from λc kp wt wb u pw=>by rw[<-Rt];unfold cM nU;rfl);have Ev:=zh (show∀(kp:Nat) (c wt wb u pw:aG),iE f kp c wt wb u pw=⟨1,false,false,0, [], [],0,c,aH f 2,(kp:Int),aH f 4,wt,wb,(f / 8 % 4:Nat),aH f 32,aH f 128,aH f 64,u,pw,false,0, [], [], []⟩from λ_ _ _ _ _ _=>rfl);have K5:=zh (show∀(kp:Nat) (c l:aG),Tq f kp c l=(jj (aH f 4) l).bind λwt=>(jj (aH f 4) wt.2).bind λwb=>(jj (aH f 128) wb.2).bind λu=>(jj (aH f 64) u.2).bind λpw=>if CV=f then some (iE f kp c wt.1 wb.1 u.1 pw.1,pw.2)else none by
  intro kp c l;rw[<-Rt];rfl)
 obtain⟨⟨b1,b2,b3⟩,⟨b4,b5⟩,b6⟩:(decide (0 < bits BinOp.and IntKind.i64 ((f:Nat):Int) 128)=aH f 128/\decide (0 < bits BinOp.and IntKind.i64 ((f:Nat):Int) 64)=aH f 64/\decide (0 < bits BinOp.and IntKind.i64 ((f:Nat):Int) 32)=aH f 32)/\(decide (0 < bits BinOp.and IntKind.i64 ((f:Nat):Int) 4)=aH f 4/\decide (0 < bits BinOp.and IntKind.i64 ((f:Nat):Int) 2)=aH f 2)/\bits BinOp.and IntKind.i64 (((f:Nat):Int) / 8) 3=((f / 8 % 4:Nat):Int):=Hq ⟨f,hf⟩;have Rp:f / 8 % 4 < 4:=Nat.mod_lt _ (by omega)
 generalize aH f 128=hu at b1 uQ Ev K5
 generalize aH f 64=hp at b2 uQ Ev K5
 generalize aH f 32=wr at b3 uQ Ev K5
 generalize aH f 4=hw at b4 uQ Ev K5
 generalize aH f 2=cl at b5 uQ Ev K5
 generalize f / 8 % 4=Q at b6 uQ Ev K5 Rp
 clear Rt hf;have Ce:=zh Rp;clear Rp;have f15:=yo.o.g.frozen 15;have g15:=yo.o.g.cell 15;simp only[cg,bU,fe]at g15;have f16:=yo.o.g.frozen 16;have g16:=yo.o.g.cell 16;simp only[cg,bU,fe]at g16;have f14:=yo.o.g.frozen 14;have g14:=yo.o.g.cell 14;simp only[cg,bU,fe]at g14;have f10:=yo.o.g.frozen 10;have g10:=yo.o.g.cell 10;simp only[cg,bU,fe]at g10;have f8:=yo.o.g.frozen 8;have g8:=yo.o.g.cell 8;simp only[cg,bU,fe]at g8;have f13:=yo.o.g.frozen 13;have g13:=yo.o.g.cell 13;simp only[cg,bU,fe]at g13
 go_upto_region 5 with fail
 clear b1 b2 b3 b4 b5 b6 f15 f16 f14 f10 f8 f13 g15 g16 g14 g10 g8 g13;obtain⟨W6,FC⟩:∃W6,(((((w5.setCell ⟨W0.heap.size,15,none⟩ (.bool hu)).setCell ⟨W0.heap.size,16,none⟩ (.bool hp)).setCell ⟨W0.heap.size,14,none⟩ (.bool wr)).setCell ⟨W0.heap.size,10,none⟩ (.bool hw)).setCell ⟨W0.heap.size,8,none⟩ (.bool cl)).setCell ⟨W0.heap.size,13,none⟩ (.int .i64 (Q:Nat))=W6:=⟨_,rfl⟩;have En:=zh (show om w W6 base r w.heap.size W0.heap.size (j_ 0 [] cl 0 hw [] [] (Q:Nat) wr hu hp [] []) V3 by rw[<-FC];exact(((((yo.o.put 15 _).put 16 _).put 14 _).put 10 _).put 8 _).put 13 _);rw[FC];clear FC yo uz je ST;have iz:=zh En.o.rd;have MI:=λ(W:au) (hC:qQ r W6 W)=>(En.o.b.keep (show ae W6 W [r]from hC) (by have:=En.o.o;simp;omega)).cell 0
 simp only[cg,bU]at MI
 rcases wi:jv 2 V3 with _ | ⟨kp,V4⟩
 ·skip
  have gZ:=zh (show X=none by rw[Qj.o,wi];rfl);have E1:=zh wi;clear wi;have LH:dI [⟨1, [], []⟩] (qQ r) (sW base r V3 (gX V3 V3)):=iD;refine cZ [⟨1, [], []⟩] (qQ r) (sW base r V3 (gX V3 V3)) _ 1 [] _ rfl LH (by kernel_rfl) rfl (by kernel_rfl) ?_;apply bL 0 _ rfl (by decide)
  ·intro W vals hW ag
   have hC:=hW.c;simp only[aR]at ag
   try simp only[ai]at ag
   clear ag;have m:=MI W hC;refine⟨?_⟩;simp only[fill];go_simp
   first | exact⟨LH.bp (ae.refl _ _),rfl⟩ | exact⟨LH.bp (ae.alloc _ _),rfl⟩
  simp only[af];refine gA rfl (λW vals hW ag=> ?_) ?_
  ·have hC:=hW.c
   simp only[aR]at ag
   try simp only[ai]at ag
   have hr:Rd W base r V3:=(hW.a ⟨1, [], []⟩ (by simp) (.inl rfl)).1 iz.o;clear ag;simp only[fill,Act.put,bo,bn,bh];refine⟨rfl,58, #[.agg #[.pointer (some ⟨r,0,none⟩)],.int .i64 2],W,by go_simp, ?_⟩;refine(gF (k' :=2) hr E1.o (by omega) (by omega) rfl).mono ?_;rintro e w9 ⟨kD,rfl⟩;refine⟨_,rfl,λa' hd' ht' => ?_⟩;obtain⟨t',d'⟩:=a';simp only at hd';subst hd';simp only[Exit.then];exact⟨rfl,(En.o.k.trans (show ae W6 _ [r]from hC) (λ_ hx _=>hx)).trans kD (λ_ hx _=>hx),by rw[gZ.o]⟩
  simp only[af];apply bL 2 _ rfl (by decide)
  ·intro W vals hW ag
   have hC:=hW.c;simp only[aR]at ag
   try simp only[ai]at ag
   clear ag;have m:=MI W hC;refine⟨?_⟩;simp only[fill];go_simp
   first | exact⟨LH.bp (ae.refl _ _),rfl⟩ | exact⟨LH.bp (ae.alloc _ _),rfl⟩
  simp only[af];refine bC 3 rfl (by decide) (by kernel_rfl) ?_;simp only[af];refine bC 4 rfl (by decide) (by kernel_rfl) ?_;simp only[af];refine bC 5 rfl (by decide) (by kernel_rfl) ?_;simp only[af];refine bC 6 rfl (by decide) (by kernel_rfl) ?_;simp only[af];refine bC 7 rfl (by decide) (by kernel_rfl) ?_;simp only[af];exact iq
 have E1:=zh wi;have SF:V4.length < V3.length:=by
  have:=(bJ wi).2.2;omega
 clear wi
 rcases oC:cQ V4 with _ | ⟨c,V5⟩
 ·skip
  have gZ:=zh (show X=none by rw[Qj.o,E1.o,di];simp only;rw[oC];rfl);have E2:=zh oC;clear oC;have LH:dI [⟨1, [], []⟩,⟨3, [], []⟩] (qQ r) (sW base r V4 (gX V3 V4)):=iD;refine cZ [⟨1, [], []⟩,⟨3, [], []⟩] (qQ r) (sW base r V4 (gX V3 V4)) _ 3 [44] _ rfl LH (by kernel_rfl) rfl (by kernel_rfl) ?_;apply bL 0 _ rfl (by decide)
  ·intro W vals hW ag
   have hC:=hW.c;simp only[aR]at ag
   try simp only[ai]at ag
   clear ag;have m:=MI W hC;refine⟨?_⟩;simp only[fill];go_simp
   first | exact⟨LH.bp (ae.refl _ _),rfl⟩ | exact⟨LH.bp (ae.alloc _ _),rfl⟩
  simp only[af];refine qW 1 [] (λ_ v W' =>v= .int .i64 (kp:Nat)/\Rd W' base r V4) rfl (by decide) (by kernel_rfl) (λW vals hW ag φ' hφ=> ?_) ?_
  ·have hC:=hW.c
   simp only[aR]at ag
   try simp only[ai]at ag
   have hr:Rd W base r V3:=(hW.a ⟨1, [], []⟩ (by simp) (.inl rfl)).1 iz.o;clear ag;refine⟨?_⟩;simp only[fill];go_simp;exact dA LH hφ ((mn hr E1.o).mono (by rintro e w9 ⟨h1,h2,h3⟩;exact⟨_,h2,rU hr h1 (by simp[gX] <;> omega) (by simp[gX] <;> omega),rfl,h3⟩))
  simp only[af];apply bL 2 _ rfl (by decide)
  ·intro W vals hW ag
   have hC:=hW.c;simp only[aR]at ag
   try simp only[ai]at ag
   clear ag;have m:=MI W hC;refine⟨?_⟩;simp only[fill];go_simp
   first | exact⟨LH.bp (ae.refl _ _),rfl⟩ | exact⟨LH.bp (ae.alloc _ _),rfl⟩
  simp only[af];refine gA rfl (λW vals hW ag=> ?_) ?_
  ·have hC:=hW.c
   simp only[aR]at ag
   try simp only[ai]at ag
   obtain⟨W1,h0,h1,_,cS⟩:=ag (by decide);have hr:Rd W base r V4:=(h1.a ⟨3, [], []⟩ (by simp) (.inr (.inr (.inl rfl)))).1 cS;clear ag;simp only[fill,Act.put,bo,bn,bh];refine⟨rfl,71, #[.agg #[.pointer (some ⟨r,0,none⟩)]],W,by go_simp, ?_⟩;refine(eI hr E2.o).mono ?_;rintro e w9 ⟨kD,rfl⟩;refine⟨_,rfl,λa' hd' ht' => ?_⟩;obtain⟨t',d'⟩:=a';simp only at hd';subst hd';simp only[Exit.then];exact⟨rfl,(En.o.k.trans (show ae W6 _ [r]from hC) (λ_ hx _=>hx)).trans kD (λ_ hx _=>hx),by rw[gZ.o]⟩
  simp only[af];apply bL 4 _ rfl (by decide)
  ·intro W vals hW ag
   clear ag;have hC:=hW.c;refine⟨?_⟩;simp only[fill];go_simp
   first | exact⟨LH.bp (ae.refl _ _),rfl⟩ | exact⟨LH.bp (ae.alloc _ _),rfl⟩
  simp only[af];refine bC 5 rfl (by decide) (by kernel_rfl) ?_;simp only[af];refine bC 6 rfl (by decide) (by kernel_rfl) ?_;simp only[af];refine bC 7 rfl (by decide) (by kernel_rfl) ?_;simp only[af];exact iq
 have E2:=zh oC;have SD:V5.length < V4.length:=by
  have:=(eH oC).2.2;omega
 clear oC;have LH:dI [⟨1, [], []⟩,⟨3, [], []⟩] (qQ r) (sW base r V5 (gX V3 V4)):=iD;refine bS [⟨1, [], []⟩,⟨3, [], []⟩] (qQ r) (sW base r V5 (gX V3 V4)) _ 5 LH (by kernel_rfl) rfl (by kernel_rfl) ?_;simp only[dc,dg,dF,dK];apply aU 0 _ rfl
 ·intro W vals hW ag
  have hC:=hW.c;simp only[aR]at ag
  try simp only[ai]at ag
  clear ag;have m:=MI W hC;refine⟨?_⟩;simp only[fill];go_simp
  first | exact⟨LH.bp (ae.refl _ _),rfl⟩ | exact⟨LH.bp (ae.alloc _ _),rfl⟩
 simp only[af];refine il 1 [] (λ_ v W' =>v= .int .i64 (kp:Nat)/\Rd W' base r V4) rfl (by kernel_rfl) (λW vals hW ag φ' hφ=> ?_) ?_
 ·have hC:=hW.c
  simp only[aR]at ag
  try simp only[ai]at ag
  have hr:Rd W base r V3:=(hW.a ⟨1, [], []⟩ (by simp) (.inl rfl)).1 iz.o;clear ag;refine⟨?_⟩;simp only[fill];go_simp;exact dA LH hφ ((mn hr E1.o).mono (by rintro e w9 ⟨h1,h2,h3⟩;exact⟨_,h2,rU hr h1 (by simp[gX] <;> omega) (by simp[gX] <;> omega),rfl,h3⟩))
 simp only[af];apply aU 2 _ rfl
 ·intro W vals hW ag
  have hC:=hW.c;simp only[aR]at ag
  try simp only[ai]at ag
  clear ag;have m:=MI W hC;refine⟨?_⟩;simp only[fill];go_simp
  first | exact⟨LH.bp (ae.refl _ _),rfl⟩ | exact⟨LH.bp (ae.alloc _ _),rfl⟩
 simp only[af];refine il 3 [44] (λ_ v W' =>v= .string ⟨c.toArray⟩/\Rd W' base r V5) rfl (by kernel_rfl) (λW vals hW ag φ' hφ=> ?_) ?_
 ·have hC:=hW.c
  simp only[aR]at ag
  try simp only[ai]at ag
  obtain⟨W1,h0,h1,_,cS⟩:=ag (by decide);have hr:Rd W base r V4:=(h1.a ⟨3, [], []⟩ (by simp) (.inr (.inr (.inl rfl)))).1 cS;clear ag;refine⟨?_⟩;simp only[fill];go_simp;exact dA LH hφ ((da hr E2.o).mono (by rintro e w9 ⟨h1,h2,h3⟩;exact⟨_,h2,rU hr h1 (by simp[gX] <;> omega) (by simp[gX] <;> omega),rfl,h3⟩))
 simp only[af];apply aU 4 _ rfl
 ·intro W vals hW ag
  clear ag;have hC:=hW.c;refine⟨?_⟩;simp only[fill];go_simp
  first | exact⟨LH.bp (ae.refl _ _),rfl⟩ | exact⟨LH.bp (ae.alloc _ _),rfl⟩
 simp only[af];refine eJ (λW9 vals hW ag=> ?_);simp only[df]at ag
 try simp only[ai]at ag
 simp only[fill,Act.put,bo,bn,bh];obtain⟨⟨W1,_,p1,v2,cS⟩,⟨_,_,_,v1,_⟩⟩:=ag;have JW:ae W6 W9 [r]:=hW;have jZ:=zh (En.o.read JW (show Rd W9 base r V5 from(p1.a ⟨3, [], []⟩ (by simp) (.inl rfl)).2 cS));rw[v1,v2];clear p1 cS JW hW v1 v2 MI LH;have f9:=jZ.o.g.frozen 9;have g9:=jZ.o.g.cell 9;simp only[cg,bU,fe]at g9;have f7:=jZ.o.g.frozen 7;have g7:=jZ.o.g.cell 7;simp only[cg,bU,fe]at g7;have Pw:=zh (show X=(jj hw V5).bind λwt=>(jj hw wt.2).bind λwb=>(jj hu wb.2).bind λu=>(jj hp u.2).bind λpw=>if CV=f then some (iE f kp c wt.1 wb.1 u.1 pw.1,pw.2)else none by rw[Qj.o,E1.o,di];simp only;rw[E2.o,di,K5.o])
 go_upto_region 6 with fail
 obtain⟨W7,FV⟩:∃W7,(W9.setCell ⟨W0.heap.size,9,none⟩ (.int .i64 (kp:Nat))).setCell ⟨W0.heap.size,7,none⟩ (.string ⟨c.toArray⟩)=W7:=⟨_,rfl⟩;have gW:=zh (show om w W7 base r w.heap.size W0.heap.size (j_ 0 c cl (kp:Nat) hw [] [] (Q:Nat) wr hu hp [] []) V5 by rw[<-FV];exact(jZ.o.put 9 _).put 7 _);rw[FV];clear FV En jZ iz Qj K5 f9 g9 f7 g7 E1 E2 SF SD;have VN:=zh (show kp=kp from rfl);clear VN
 cases hw with
 | true=>
  have iB:=gW.o.g.cell 10;simp only[cg,bU,fe]at iB
  go_upto_region 7 with fail
  clear iB;have iz:=zh gW.o.rd;have MI:=λ(W:au) (hC:qQ r W7 W)=>(gW.o.b.keep (show ae W7 W [r]from hC) (by have:=gW.o.o;simp;omega)).cell 0
  simp only[cg,bU]at MI
  rcases Ng:cQ V5 with _ | ⟨wt,V6⟩
  ·skip
   have gZ:=zh (show X=none by rw[Pw.o,ep,Ng];rfl);have F1:=zh Ng;clear Ng;have LH:dI [⟨1, [], []⟩] (qQ r) (sW base r V5 (gX V5 V5)):=iD;refine cZ [⟨1, [], []⟩] (qQ r) (sW base r V5 (gX V5 V5)) _ 1 [] _ rfl LH (by kernel_rfl) rfl (by kernel_rfl) ?_;apply bL 0 _ rfl (by decide)
   ·intro W vals hW ag
    have hC:=hW.c;simp only[aR]at ag
    try simp only[ai]at ag
    clear ag;have m:=MI W hC;refine⟨?_⟩;simp only[fill];go_simp
    first | exact⟨LH.bp (ae.refl _ _),rfl⟩ | exact⟨LH.bp (ae.alloc _ _),rfl⟩
   simp only[af];refine gA rfl (λW vals hW ag=> ?_) ?_
   ·have hC:=hW.c
    simp only[aR]at ag
    try simp only[ai]at ag
    have hr:Rd W base r V5:=(hW.a ⟨1, [], []⟩ (by simp) (.inl rfl)).1 iz.o;clear ag;simp only[fill,Act.put,bo,bn,bh];refine⟨rfl,71, #[.agg #[.pointer (some ⟨r,0,none⟩)]],W,by go_simp, ?_⟩;refine(eI hr F1.o).mono ?_;rintro e w9 ⟨kD,rfl⟩;refine⟨_,rfl,λa' hd' ht' => ?_⟩;obtain⟨t',d'⟩:=a';simp only at hd';subst hd';simp only[Exit.then];exact⟨rfl,(gW.o.k.trans (show ae W7 _ [r]from hC) (λ_ hx _=>hx)).trans kD (λ_ hx _=>hx),by rw[gZ.o]⟩
   simp only[af];apply bL 2 _ rfl (by decide)
   ·intro W vals hW ag
    have hC:=hW.c;simp only[aR]at ag
    try simp only[ai]at ag
    clear ag;have m:=MI W hC;refine⟨?_⟩;simp only[fill];go_simp
    first | exact⟨LH.bp (ae.refl _ _),rfl⟩ | exact⟨LH.bp (ae.alloc _ _),rfl⟩
   simp only[af];refine bC 3 rfl (by decide) (by kernel_rfl) ?_;simp only[af];refine bC 4 rfl (by decide) (by kernel_rfl) ?_;simp only[af];refine bC 5 rfl (by decide) (by kernel_rfl) ?_;simp only[af];refine bC 6 rfl (by decide) (by kernel_rfl) ?_;simp only[af];refine bC 7 rfl (by decide) (by kernel_rfl) ?_;simp only[af];refine bC 8 rfl (by decide) (by kernel_rfl) ?_;simp only[af];refine bC 9 rfl (by decide) (by kernel_rfl) ?_;simp only[af];exact iq
  have F1:=zh Ng;have Uk:V6.length < V5.length:=by
   have:=(eH Ng).2.2;omega
  clear Ng
  rcases KM:cQ V6 with _ | ⟨wb,V7⟩
  ·skip
   have gZ:=zh (show X=none by rw[Pw.o,ep,F1.o,di];simp only;rw[ep,KM];rfl);have F2:=zh KM;clear KM;have LH:dI [⟨1, [], []⟩,⟨3, [], []⟩] (qQ r) (sW base r V6 (gX V5 V6)):=iD;refine cZ [⟨1, [], []⟩,⟨3, [], []⟩] (qQ r) (sW base r V6 (gX V5 V6)) _ 3 [52] _ rfl LH (by kernel_rfl) rfl (by kernel_rfl) ?_;apply bL 0 _ rfl (by decide)
   ·intro W vals hW ag
    have hC:=hW.c;simp only[aR]at ag
    try simp only[ai]at ag
    clear ag;have m:=MI W hC;refine⟨?_⟩;simp only[fill];go_simp
    first | exact⟨LH.bp (ae.refl _ _),rfl⟩ | exact⟨LH.bp (ae.alloc _ _),rfl⟩
   simp only[af];refine qW 1 [] (λ_ v W' =>v= .string ⟨wt.toArray⟩/\Rd W' base r V6) rfl (by decide) (by kernel_rfl) (λW vals hW ag φ' hφ=> ?_) ?_
   ·have hC:=hW.c
    simp only[aR]at ag
    try simp only[ai]at ag
    have hr:Rd W base r V5:=(hW.a ⟨1, [], []⟩ (by simp) (.inl rfl)).1 iz.o;clear ag;refine⟨?_⟩;simp only[fill];go_simp;exact dA LH hφ ((da hr F1.o).mono (by rintro e w9 ⟨h1,h2,h3⟩;exact⟨_,h2,rU hr h1 (by simp[gX] <;> omega) (by simp[gX] <;> omega),rfl,h3⟩))
   simp only[af];apply bL 2 _ rfl (by decide)
   ·intro W vals hW ag
    have hC:=hW.c;simp only[aR]at ag
    try simp only[ai]at ag
    clear ag;have m:=MI W hC;refine⟨?_⟩;simp only[fill];go_simp
    first | exact⟨LH.bp (ae.refl _ _),rfl⟩ | exact⟨LH.bp (ae.alloc _ _),rfl⟩
   simp only[af];refine gA rfl (λW vals hW ag=> ?_) ?_
   ·have hC:=hW.c
    simp only[aR]at ag
    try simp only[ai]at ag
    obtain⟨W1,h0,h1,_,cS⟩:=ag (by decide);have hr:Rd W base r V6:=(h1.a ⟨3, [], []⟩ (by simp) (.inr (.inr (.inl rfl)))).1 cS;clear ag;simp only[fill,Act.put,bo,bn,bh];refine⟨rfl,71, #[.agg #[.pointer (some ⟨r,0,none⟩)]],W,by go_simp, ?_⟩;refine(eI hr F2.o).mono ?_;rintro e w9 ⟨kD,rfl⟩;refine⟨_,rfl,λa' hd' ht' => ?_⟩;obtain⟨t',d'⟩:=a';simp only at hd';subst hd';simp only[Exit.then];exact⟨rfl,(gW.o.k.trans (show ae W7 _ [r]from hC) (λ_ hx _=>hx)).trans kD (λ_ hx _=>hx),by rw[gZ.o]⟩
   simp only[af];apply bL 4 _ rfl (by decide)
   ·intro W vals hW ag
    clear ag;have hC:=hW.c;refine⟨?_⟩;simp only[fill];go_simp
    first | exact⟨LH.bp (ae.refl _ _),rfl⟩ | exact⟨LH.bp (ae.alloc _ _),rfl⟩
   simp only[af];apply bL 5 _ rfl (by decide)
   ·intro W vals hW ag
    clear ag;have hC:=hW.c;refine⟨?_⟩;simp only[fill];go_simp
    first | exact⟨LH.bp (ae.refl _ _),rfl⟩ | exact⟨LH.bp (ae.alloc _ _),rfl⟩
   simp only[af];refine bC 6 rfl (by decide) (by kernel_rfl) ?_;simp only[af];refine bC 7 rfl (by decide) (by kernel_rfl) ?_;simp only[af];refine bC 8 rfl (by decide) (by kernel_rfl) ?_;simp only[af];refine bC 9 rfl (by decide) (by kernel_rfl) ?_;simp only[af];exact iq
  have F2:=zh KM;have Uj:V7.length < V6.length:=by
   have:=(eH KM).2.2;omega
  clear KM;have LH:dI [⟨1, [], []⟩,⟨3, [], []⟩] (qQ r) (sW base r V7 (gX V5 V6)):=iD;refine bS [⟨1, [], []⟩,⟨3, [], []⟩] (qQ r) (sW base r V7 (gX V5 V6)) _ 6 LH (by kernel_rfl) rfl (by kernel_rfl) ?_;simp only[dc,dg,dF,dK];apply aU 0 _ rfl
  ·intro W vals hW ag
   have hC:=hW.c;simp only[aR]at ag
   try simp only[ai]at ag
   clear ag;have m:=MI W hC;refine⟨?_⟩;simp only[fill];go_simp
   first | exact⟨LH.bp (ae.refl _ _),rfl⟩ | exact⟨LH.bp (ae.alloc _ _),rfl⟩
  simp only[af];refine il 1 [] (λ_ v W' =>v= .string ⟨wt.toArray⟩/\Rd W' base r V6) rfl (by kernel_rfl) (λW vals hW ag φ' hφ=> ?_) ?_
  ·have hC:=hW.c
   simp only[aR]at ag
   try simp only[ai]at ag
   have hr:Rd W base r V5:=(hW.a ⟨1, [], []⟩ (by simp) (.inl rfl)).1 iz.o;clear ag;refine⟨?_⟩;simp only[fill];go_simp;exact dA LH hφ ((da hr F1.o).mono (by rintro e w9 ⟨h1,h2,h3⟩;exact⟨_,h2,rU hr h1 (by simp[gX] <;> omega) (by simp[gX] <;> omega),rfl,h3⟩))
  simp only[af];apply aU 2 _ rfl
  ·intro W vals hW ag
   have hC:=hW.c;simp only[aR]at ag
   try simp only[ai]at ag
   clear ag;have m:=MI W hC;refine⟨?_⟩;simp only[fill];go_simp
   first | exact⟨LH.bp (ae.refl _ _),rfl⟩ | exact⟨LH.bp (ae.alloc _ _),rfl⟩
  simp only[af];refine il 3 [52] (λ_ v W' =>v= .string ⟨wb.toArray⟩/\Rd W' base r V7) rfl (by kernel_rfl) (λW vals hW ag φ' hφ=> ?_) ?_
  ·have hC:=hW.c
   simp only[aR]at ag
   try simp only[ai]at ag
   obtain⟨W1,h0,h1,_,cS⟩:=ag (by decide);have hr:Rd W base r V6:=(h1.a ⟨3, [], []⟩ (by simp) (.inr (.inr (.inl rfl)))).1 cS;clear ag;refine⟨?_⟩;simp only[fill];go_simp;exact dA LH hφ ((da hr F2.o).mono (by rintro e w9 ⟨h1,h2,h3⟩;exact⟨_,h2,rU hr h1 (by simp[gX] <;> omega) (by simp[gX] <;> omega),rfl,h3⟩))
  simp only[af];apply aU 4 _ rfl
  ·intro W vals hW ag
   clear ag;have hC:=hW.c;refine⟨?_⟩;simp only[fill];go_simp
   first | exact⟨LH.bp (ae.refl _ _),rfl⟩ | exact⟨LH.bp (ae.alloc _ _),rfl⟩
  simp only[af];apply aU 5 _ rfl
  ·intro W vals hW ag
   clear ag;have hC:=hW.c;refine⟨?_⟩;simp only[fill];go_simp
   first | exact⟨LH.bp (ae.refl _ _),rfl⟩ | exact⟨LH.bp (ae.alloc _ _),rfl⟩
  simp only[af];refine eJ (λW9 vals hW ag=> ?_);simp only[df]at ag
  try simp only[ai]at ag
  simp only[fill,Act.put,bo,bn,bh];obtain⟨⟨W1,_,p1,v2,cS⟩,⟨_,_,_,v1,_⟩⟩:=ag;have JW:ae W7 W9 [r]:=hW;have jZ:=zh (gW.o.read JW (show Rd W9 base r V7 from(p1.a ⟨3, [], []⟩ (by simp) (.inl rfl)).2 cS));rw[v1,v2];clear p1 cS JW hW v1 v2 MI LH;have f11:=jZ.o.g.frozen 11;have g11:=jZ.o.g.cell 11;simp only[cg,bU,fe]at g11;have f12:=jZ.o.g.frozen 12;have g12:=jZ.o.g.cell 12;simp only[cg,bU,fe]at g12;have MU:=zh (show X=(jj hu V7).bind λu=>(jj hp u.2).bind λpw=>if CV=f then some (iE f kp c wt wb u.1 pw.1,pw.2)else none by rw[Pw.o,ep,F1.o,di];simp only;rw[ep,F2.o,di])
  go_upto_region 8 with fail
  obtain⟨W8,KJ⟩:∃W8,(W9.setCell ⟨W0.heap.size,11,none⟩ (.string ⟨wt.toArray⟩)).setCell ⟨W0.heap.size,12,none⟩ (.string ⟨wb.toArray⟩)=W8:=⟨_,rfl⟩;have eZ:=zh (show om w W8 base r w.heap.size W0.heap.size (j_ 0 c cl (kp:Nat) true wt wb (Q:Nat) wr hu hp [] []) V7 by rw[<-KJ];exact(jZ.o.put 11 _).put 12 _);rw[KJ];clear KJ gW jZ iz Pw f11 g11 f12 g12 F1 F2 Uk Uj
  cases hu with
  | true=>
   have jf:=eZ.o.g.cell 15;simp only[cg,bU,fe]at jf
   go_upto_region 9 with fail
   clear jf
   rcases FF:cQ V7 with _ | ⟨u,V8⟩
   ·skip
    have HT:=zh (show X=none by rw[MU.o,ep,FF];rfl);have HE:=zh FF;have c0:=eZ.o.b.cell 0;simp only[cg,bU]at c0;clear FF
    go_wp2_with fail
    refine(eI eZ.o.rd HE.o).mono ?_;rintro e w3 ⟨hk,rfl⟩;exact⟨rfl,eZ.o.k.trans hk (λ_ hx _=>hx),by rw[HT.o]⟩
   have D0:=zh (MU.o.trans (show _=(jj hp V8).bind λpw=>if CV=f then some (iE f kp c wt wb u pw.1,pw.2)else none by rw[ep,FF];rfl));have EU:=zh FF;have c0:=eZ.o.b.cell 0;simp only[cg,bU]at c0;clear FF
   go_wp2_with fail
   refine(da eZ.o.rd EU.o).mono ?_;rintro e Qr ⟨hk,rfl,cS⟩;unfold lI;have sQ:=zh (eZ.o.read hk cS);clear hk cS c0;have f17:=sQ.o.g.frozen 17;have g17:=sQ.o.g.cell 17;simp only[cg,bU,fe]at g17
   go_upto_region 10 with fail
   obtain⟨Ml,Dx⟩:∃Ml,Qr.setCell ⟨W0.heap.size,17,none⟩ (.string ⟨u.toArray⟩)=Ml:=⟨_,rfl⟩;have gY:=zh (show om w Ml base r w.heap.size W0.heap.size (j_ 0 c cl (kp:Nat) true wt wb (Q:Nat) wr true hp u []) V8 by rw[<-Dx];exact sQ.o.put 17 _);rw[Dx];clear Dx f17 g17 sQ
   cases hp with
   | true=>
    have hU:=gY.o.g.cell 16;simp only[cg,bU,fe]at hU
    go_upto_region 11 with fail
    clear hU
    rcases tJ:cQ V8 with _ | ⟨pw,V9⟩
    ·skip
     have HT:=zh (show X=none by rw[D0.o,ep,tJ];rfl);have HE:=zh tJ;have c0:=gY.o.b.cell 0;simp only[cg,bU]at c0;clear tJ
     go_wp2_with fail
     refine(eI gY.o.rd HE.o).mono ?_;rintro e w3 ⟨hk,rfl⟩;exact⟨rfl,gY.o.k.trans hk (λ_ hx _=>hx),by rw[HT.o]⟩
    have B6:=zh (D0.o.trans (show _=if CV=f then some (iE f kp c wt wb u pw,V9)else none by rw[ep,tJ];rfl));have EP:=zh tJ;have c0:=gY.o.b.cell 0;simp only[cg,bU]at c0;clear tJ
    go_wp2_with fail
    refine(da gY.o.rd EP.o).mono ?_;rintro e K9 ⟨hk,rfl,cS⟩;unfold lI;have sQ:=zh (gY.o.read hk cS);clear hk cS c0;have f18:=sQ.o.g.frozen 18;have g18:=sQ.o.g.cell 18;simp only[cg,bU,fe]at g18
    go_upto_region 12 with fail
    obtain⟨DJ,q8⟩:∃DJ,K9.setCell ⟨W0.heap.size,18,none⟩ (.string ⟨pw.toArray⟩)=DJ:=⟨_,rfl⟩;have iZ:=zh (show om w DJ base r w.heap.size W0.heap.size (j_ 0 c cl (kp:Nat) true wt wb (Q:Nat) wr true true u pw) V9 by rw[<-q8];exact sQ.o.put 18 _);rw[q8];clear q8 f18 g18 sQ
    by_cases iA:CV=f
    ·skip
     have HT:=zh (show X=some (iE f kp c wt wb u pw,V9)by rw[B6.o,aE iA]);have p7:((f:Int)==(CV:Nat))=true:=by simp;omega
     have CC:=zh (λW=>bQ ⟨0,false,false,0, [], [],0,c,cl,(kp:Nat),true,wt,wb,(Q:Nat),wr,true,true,u,pw,false,0, [], [], []⟩ aN aN aN W (by have:=Ce.o;simp only;omega));simp only[uQ.o]at CC;clear iA
     go_upto_region 12 with fail
     refine av ax _ 4 rfl (by kernel_rfl) (by kernel_rfl) (λ_=>ae.refl _ _) (λ_ _ _ h k=>h.trans k (by simp)) ?_;simp only[dc,dg,dF,dK];refine lq (.int .i64 (f:Nat)) ?_;refine lw 29 (.tmp 4) (W0.heap.size) ((qA 0 c cl (kp:Nat) true wt wb (Q:Nat) wr true true u pw)) underlying29 (λW hW=>aD (iZ.o.g.keeps hW)) ?_;refine aT 130 (#[.agg (j_ 0 c cl (kp:Nat) true wt wb (Q:Nat) wr true true u pw)]) (.int .i64 (CV:Nat)) (λ_=>by kernel_rfl) (λ_ _=>by kernel_rfl) (λW hW=>CC.o W) ?_;refine aK (.bool true) (λ_=>by kernel_rfl) (λW _=>(show _=Result.ok (Next.value (.bool ((f:Int)==(CV:Nat)))) W by kernel_rfl).trans (by rw[p7])) ?_;refine aq (λW vals hW ag=> ?_);simp only[af,aw]at ag
     try simp only[ai]at ag
     simp only[af,fill,Act.put,bo,bn,bh];clear ag;have n9:=zh (iZ.o.keeps hW);clear hW
     go_wp2_with (go_at_call 30;refine(cz _).mono ?_;rintro e w' ⟨rfl,rfl⟩;refine Hid.o ?_)
     refine zh ?_
     go_upto_region 13 with fail
     refine av ax _ 1 rfl (by kernel_rfl) (by kernel_rfl) (λ_=>ae.refl _ _) (λ_ _ _ h k=>h.trans k (by simp)) ?_;simp only[dc,dg,dF,dK];refine lw 29 (.tmp 4) (W0.heap.size) ((qA 0 c cl (kp:Nat) true wt wb (Q:Nat) wr true true u pw)) underlying29 (λW hW=>aD (n9.o.g.keeps hW)) ?_;refine aq (λW vals hW ag=> ?_);simp only[af,aw]at ag
     try simp only[ai]at ag
     simp only[af,fill,Act.put,bo,bn,bh];clear ag;have lF:=zh (n9.o.keeps hW);clear hW;refine wpList_store_row rfl (.tmp 4) (.tmp 74) 29 rfl W0.heap.size (j_ 0 c cl (kp:Nat) true wt wb (Q:Nat) wr true true u pw) (j_ 0 c cl (kp:Nat) true wt wb (Q:Nat) wr true true u pw) lF.o.g (by kernel_rfl) rfl (by simp[Value.oneCell']) rfl rfl ?_;intro w7 r7 k7;have ku:=zh r7;have kr:=zh (lF.o.rd.far k7 (λx hx=>by have:=lF.o.o;simp at hx;omega));have iN:=zh (lF.o.k.trans k7 (λx hx hlt=>by have:=lF.o.o;simp at hx;omega));clear r7 k7
     go_wp2_with fail
     obtain⟨d,Dp,Dt⟩:=cI;refine bD (aW (s:=4) (cs:=(qA 0 c cl (kp:Nat) true wt wb (Q:Nat) wr true true u pw)) rfl rfl (aD ku.o) Dp Dt (by kernel_rfl)) rfl ⟨iN.o, ?_⟩;rw[HT.o,Ev.o];exact⟨_,_,_,rfl,jz.empty rfl rfl rfl,kr.o⟩
    ·skip
     have HT:=zh (show X=none by rw[B6.o,aj iA]);have p7:((f:Int)==(CV:Nat))=false:=by simp;omega
     have CC:=zh (λW=>bQ ⟨0,false,false,0, [], [],0,c,cl,(kp:Nat),true,wt,wb,(Q:Nat),wr,true,true,u,pw,false,0, [], [], []⟩ aN aN aN W (by have:=Ce.o;simp only;omega));simp only[uQ.o]at CC;clear iA
     go_upto_region 12 with fail
     refine av ax _ 4 rfl (by kernel_rfl) (by kernel_rfl) (λ_=>ae.refl _ _) (λ_ _ _ h k=>h.trans k (by simp)) ?_;simp only[dc,dg,dF,dK];refine lq (.int .i64 (f:Nat)) ?_;refine lw 29 (.tmp 4) (W0.heap.size) ((qA 0 c cl (kp:Nat) true wt wb (Q:Nat) wr true true u pw)) underlying29 (λW hW=>aD (iZ.o.g.keeps hW)) ?_;refine aT 130 (#[.agg (j_ 0 c cl (kp:Nat) true wt wb (Q:Nat) wr true true u pw)]) (.int .i64 (CV:Nat)) (λ_=>by kernel_rfl) (λ_ _=>by kernel_rfl) (λW hW=>CC.o W) ?_;refine aK (.bool false) (λ_=>by kernel_rfl) (λW _=>(show _=Result.ok (Next.value (.bool ((f:Int)==(CV:Nat)))) W by kernel_rfl).trans (by rw[p7])) ?_;refine aq (λW vals hW ag=> ?_);simp only[af,aw]at ag
     try simp only[ai]at ag
     simp only[af,fill,Act.put,bo,bn,bh];clear ag;have n9:=zh (iZ.o.keeps hW);clear hW
     go_wp2_with (go_at_call 30;refine(bK _).mono ?_;rintro e w' ⟨rfl,rfl⟩)
     exact⟨rfl,n9.o.k,by rw[HT.o]⟩
   | false=>
    have B0:=zh (D0.o.trans (show _=if CV=f then some (iE f kp c wt wb u [],V8)else none by rw[ml];rfl));have hU:=gY.o.g.cell 16;simp only[cg,bU,fe]at hU
    go_upto_region 12 with fail
    clear hU
    by_cases iA:CV=f
    ·skip
     have HT:=zh (show X=some (iE f kp c wt wb u [],V8)by rw[B0.o,aE iA]);have p7:((f:Int)==(CV:Nat))=true:=by simp;omega
     have CC:=zh (λW=>bQ ⟨0,false,false,0, [], [],0,c,cl,(kp:Nat),true,wt,wb,(Q:Nat),wr,true,false,u, [],false,0, [], [], []⟩ aN aN aN W (by have:=Ce.o;simp only;omega));simp only[uQ.o]at CC;clear iA
     go_upto_region 12 with fail
     refine av ax _ 4 rfl (by kernel_rfl) (by kernel_rfl) (λ_=>ae.refl _ _) (λ_ _ _ h k=>h.trans k (by simp)) ?_;simp only[dc,dg,dF,dK];refine lq (.int .i64 (f:Nat)) ?_;refine lw 29 (.tmp 4) (W0.heap.size) ((qA 0 c cl (kp:Nat) true wt wb (Q:Nat) wr true false u [])) underlying29 (λW hW=>aD (gY.o.g.keeps hW)) ?_;refine aT 130 (#[.agg (j_ 0 c cl (kp:Nat) true wt wb (Q:Nat) wr true false u [])]) (.int .i64 (CV:Nat)) (λ_=>by kernel_rfl) (λ_ _=>by kernel_rfl) (λW hW=>CC.o W) ?_;refine aK (.bool true) (λ_=>by kernel_rfl) (λW _=>(show _=Result.ok (Next.value (.bool ((f:Int)==(CV:Nat)))) W by kernel_rfl).trans (by rw[p7])) ?_;refine aq (λW vals hW ag=> ?_);simp only[af,aw]at ag
     try simp only[ai]at ag
     simp only[af,fill,Act.put,bo,bn,bh];clear ag;have n9:=zh (gY.o.keeps hW);clear hW
     go_wp2_with (go_at_call 30;refine(cz _).mono ?_;rintro e w' ⟨rfl,rfl⟩;refine Hid.o ?_)
     refine zh ?_
     go_upto_region 13 with fail
     refine av ax _ 1 rfl (by kernel_rfl) (by kernel_rfl) (λ_=>ae.refl _ _) (λ_ _ _ h k=>h.trans k (by simp)) ?_;simp only[dc,dg,dF,dK];refine lw 29 (.tmp 4) (W0.heap.size) ((qA 0 c cl (kp:Nat) true wt wb (Q:Nat) wr true false u [])) underlying29 (λW hW=>aD (n9.o.g.keeps hW)) ?_;refine aq (λW vals hW ag=> ?_);simp only[af,aw]at ag
     try simp only[ai]at ag
     simp only[af,fill,Act.put,bo,bn,bh];clear ag;have lF:=zh (n9.o.keeps hW);clear hW;refine wpList_store_row rfl (.tmp 4) (.tmp 74) 29 rfl W0.heap.size (j_ 0 c cl (kp:Nat) true wt wb (Q:Nat) wr true false u []) (j_ 0 c cl (kp:Nat) true wt wb (Q:Nat) wr true false u []) lF.o.g (by kernel_rfl) rfl (by simp[Value.oneCell']) rfl rfl ?_;intro w7 r7 k7;have ku:=zh r7;have kr:=zh (lF.o.rd.far k7 (λx hx=>by have:=lF.o.o;simp at hx;omega));have iN:=zh (lF.o.k.trans k7 (λx hx hlt=>by have:=lF.o.o;simp at hx;omega));clear r7 k7
     go_wp2_with fail
     obtain⟨d,Dp,Dt⟩:=cI;refine bD (aW (s:=4) (cs:=(qA 0 c cl (kp:Nat) true wt wb (Q:Nat) wr true false u [])) rfl rfl (aD ku.o) Dp Dt (by kernel_rfl)) rfl ⟨iN.o, ?_⟩;rw[HT.o,Ev.o];exact⟨_,_,_,rfl,jz.empty rfl rfl rfl,kr.o⟩
    ·skip
     have HT:=zh (show X=none by rw[B0.o,aj iA]);have p7:((f:Int)==(CV:Nat))=false:=by simp;omega
     have CC:=zh (λW=>bQ ⟨0,false,false,0, [], [],0,c,cl,(kp:Nat),true,wt,wb,(Q:Nat),wr,true,false,u, [],false,0, [], [], []⟩ aN aN aN W (by have:=Ce.o;simp only;omega));simp only[uQ.o]at CC;clear iA
     go_upto_region 12 with fail
     refine av ax _ 4 rfl (by kernel_rfl) (by kernel_rfl) (λ_=>ae.refl _ _) (λ_ _ _ h k=>h.trans k (by simp)) ?_;simp only[dc,dg,dF,dK];refine lq (.int .i64 (f:Nat)) ?_;refine lw 29 (.tmp 4) (W0.heap.size) ((qA 0 c cl (kp:Nat) true wt wb (Q:Nat) wr true false u [])) underlying29 (λW hW=>aD (gY.o.g.keeps hW)) ?_;refine aT 130 (#[.agg (j_ 0 c cl (kp:Nat) true wt wb (Q:Nat) wr true false u [])]) (.int .i64 (CV:Nat)) (λ_=>by kernel_rfl) (λ_ _=>by kernel_rfl) (λW hW=>CC.o W) ?_;refine aK (.bool false) (λ_=>by kernel_rfl) (λW _=>(show _=Result.ok (Next.value (.bool ((f:Int)==(CV:Nat)))) W by kernel_rfl).trans (by rw[p7])) ?_;refine aq (λW vals hW ag=> ?_);simp only[af,aw]at ag
     try simp only[ai]at ag
     simp only[af,fill,Act.put,bo,bn,bh];clear ag;have n9:=zh (gY.o.keeps hW);clear hW
     go_wp2_with (go_at_call 30;refine(bK _).mono ?_;rintro e w' ⟨rfl,rfl⟩)
     exact⟨rfl,n9.o.k,by rw[HT.o]⟩
  | false=>
   have DZ:=zh (MU.o.trans (show _=(jj hp V7).bind λpw=>if CV=f then some (iE f kp c wt wb [] pw.1,pw.2)else none by rw[ml];rfl));have jf:=eZ.o.g.cell 15;simp only[cg,bU,fe]at jf
   go_upto_region 10 with fail
   clear jf
   cases hp with
   | true=>
    have hU:=eZ.o.g.cell 16;simp only[cg,bU,fe]at hU
    go_upto_region 11 with fail
    clear hU
    rcases tJ:cQ V7 with _ | ⟨pw,V9⟩
    ·skip
     have HT:=zh (show X=none by rw[DZ.o,ep,tJ];rfl);have HE:=zh tJ;have c0:=eZ.o.b.cell 0;simp only[cg,bU]at c0;clear tJ
     go_wp2_with fail
     refine(eI eZ.o.rd HE.o).mono ?_;rintro e w3 ⟨hk,rfl⟩;exact⟨rfl,eZ.o.k.trans hk (λ_ hx _=>hx),by rw[HT.o]⟩
    have BZ:=zh (DZ.o.trans (show _=if CV=f then some (iE f kp c wt wb [] pw,V9)else none by rw[ep,tJ];rfl));have EP:=zh tJ;have c0:=eZ.o.b.cell 0;simp only[cg,bU]at c0;clear tJ
    go_wp2_with fail
    refine(da eZ.o.rd EP.o).mono ?_;rintro e K9 ⟨hk,rfl,cS⟩;unfold lI;have sQ:=zh (eZ.o.read hk cS);clear hk cS c0;have f18:=sQ.o.g.frozen 18;have g18:=sQ.o.g.cell 18;simp only[cg,bU,fe]at g18
    go_upto_region 12 with fail
    obtain⟨DJ,q8⟩:∃DJ,K9.setCell ⟨W0.heap.size,18,none⟩ (.string ⟨pw.toArray⟩)=DJ:=⟨_,rfl⟩;have iZ:=zh (show om w DJ base r w.heap.size W0.heap.size (j_ 0 c cl (kp:Nat) true wt wb (Q:Nat) wr false true [] pw) V9 by rw[<-q8];exact sQ.o.put 18 _);rw[q8];clear q8 f18 g18 sQ
    by_cases iA:CV=f
    ·skip
     have HT:=zh (show X=some (iE f kp c wt wb [] pw,V9)by rw[BZ.o,aE iA]);have p7:((f:Int)==(CV:Nat))=true:=by simp;omega
     have CC:=zh (λW=>bQ ⟨0,false,false,0, [], [],0,c,cl,(kp:Nat),true,wt,wb,(Q:Nat),wr,false,true, [],pw,false,0, [], [], []⟩ aN aN aN W (by have:=Ce.o;simp only;omega));simp only[uQ.o]at CC;clear iA
     go_upto_region 12 with fail
     refine av ax _ 4 rfl (by kernel_rfl) (by kernel_rfl) (λ_=>ae.refl _ _) (λ_ _ _ h k=>h.trans k (by simp)) ?_;simp only[dc,dg,dF,dK];refine lq (.int .i64 (f:Nat)) ?_;refine lw 29 (.tmp 4) (W0.heap.size) ((qA 0 c cl (kp:Nat) true wt wb (Q:Nat) wr false true [] pw)) underlying29 (λW hW=>aD (iZ.o.g.keeps hW)) ?_;refine aT 130 (#[.agg (j_ 0 c cl (kp:Nat) true wt wb (Q:Nat) wr false true [] pw)]) (.int .i64 (CV:Nat)) (λ_=>by kernel_rfl) (λ_ _=>by kernel_rfl) (λW hW=>CC.o W) ?_;refine aK (.bool true) (λ_=>by kernel_rfl) (λW _=>(show _=Result.ok (Next.value (.bool ((f:Int)==(CV:Nat)))) W by kernel_rfl).trans (by rw[p7])) ?_;refine aq (λW vals hW ag=> ?_);simp only[af,aw]at ag
     try simp only[ai]at ag
     simp only[af,fill,Act.put,bo,bn,bh];clear ag;have n9:=zh (iZ.o.keeps hW);clear hW
     go_wp2_with (go_at_call 30;refine(cz _).mono ?_;rintro e w' ⟨rfl,rfl⟩;refine Hid.o ?_)
     refine zh ?_
     go_upto_region 13 with fail
     refine av ax _ 1 rfl (by kernel_rfl) (by kernel_rfl) (λ_=>ae.refl _ _) (λ_ _ _ h k=>h.trans k (by simp)) ?_;simp only[dc,dg,dF,dK];refine lw 29 (.tmp 4) (W0.heap.size) ((qA 0 c cl (kp:Nat) true wt wb (Q:Nat) wr false true [] pw)) underlying29 (λW hW=>aD (n9.o.g.keeps hW)) ?_;refine aq (λW vals hW ag=> ?_);simp only[af,aw]at ag
     try simp only[ai]at ag
     simp only[af,fill,Act.put,bo,bn,bh];clear ag;have lF:=zh (n9.o.keeps hW);clear hW;refine wpList_store_row rfl (.tmp 4) (.tmp 74) 29 rfl W0.heap.size (j_ 0 c cl (kp:Nat) true wt wb (Q:Nat) wr false true [] pw) (j_ 0 c cl (kp:Nat) true wt wb (Q:Nat) wr false true [] pw) lF.o.g (by kernel_rfl) rfl (by simp[Value.oneCell']) rfl rfl ?_;intro w7 r7 k7;have ku:=zh r7;have kr:=zh (lF.o.rd.far k7 (λx hx=>by have:=lF.o.o;simp at hx;omega));have iN:=zh (lF.o.k.trans k7 (λx hx hlt=>by have:=lF.o.o;simp at hx;omega));clear r7 k7
     go_wp2_with fail
     obtain⟨d,Dp,Dt⟩:=cI;refine bD (aW (s:=4) (cs:=(qA 0 c cl (kp:Nat) true wt wb (Q:Nat) wr false true [] pw)) rfl rfl (aD ku.o) Dp Dt (by kernel_rfl)) rfl ⟨iN.o, ?_⟩;rw[HT.o,Ev.o];exact⟨_,_,_,rfl,jz.empty rfl rfl rfl,kr.o⟩
    ·skip
     have HT:=zh (show X=none by rw[BZ.o,aj iA]);have p7:((f:Int)==(CV:Nat))=false:=by simp;omega
     have CC:=zh (λW=>bQ ⟨0,false,false,0, [], [],0,c,cl,(kp:Nat),true,wt,wb,(Q:Nat),wr,false,true, [],pw,false,0, [], [], []⟩ aN aN aN W (by have:=Ce.o;simp only;omega));simp only[uQ.o]at CC;clear iA
     go_upto_region 12 with fail
     refine av ax _ 4 rfl (by kernel_rfl) (by kernel_rfl) (λ_=>ae.refl _ _) (λ_ _ _ h k=>h.trans k (by simp)) ?_;simp only[dc,dg,dF,dK];refine lq (.int .i64 (f:Nat)) ?_;refine lw 29 (.tmp 4) (W0.heap.size) ((qA 0 c cl (kp:Nat) true wt wb (Q:Nat) wr false true [] pw)) underlying29 (λW hW=>aD (iZ.o.g.keeps hW)) ?_;refine aT 130 (#[.agg (j_ 0 c cl (kp:Nat) true wt wb (Q:Nat) wr false true [] pw)]) (.int .i64 (CV:Nat)) (λ_=>by kernel_rfl) (λ_ _=>by kernel_rfl) (λW hW=>CC.o W) ?_;refine aK (.bool false) (λ_=>by kernel_rfl) (λW _=>(show _=Result.ok (Next.value (.bool ((f:Int)==(CV:Nat)))) W by kernel_rfl).trans (by rw[p7])) ?_;refine aq (λW vals hW ag=> ?_);simp only[af,aw]at ag
     try simp only[ai]at ag
     simp only[af,fill,Act.put,bo,bn,bh];clear ag;have n9:=zh (iZ.o.keeps hW);clear hW
     go_wp2_with (go_at_call 30;refine(bK _).mono ?_;rintro e w' ⟨rfl,rfl⟩)
     exact⟨rfl,n9.o.k,by rw[HT.o]⟩
   | false=>
    have BX:=zh (DZ.o.trans (show _=if CV=f then some (iE f kp c wt wb [] [],V7)else none by rw[ml];rfl));have hU:=eZ.o.g.cell 16;simp only[cg,bU,fe]at hU
    go_upto_region 12 with fail
    clear hU
    by_cases iA:CV=f
    ·skip
     have HT:=zh (show X=some (iE f kp c wt wb [] [],V7)by rw[BX.o,aE iA]);have p7:((f:Int)==(CV:Nat))=true:=by simp;omega
     have CC:=zh (λW=>bQ ⟨0,false,false,0, [], [],0,c,cl,(kp:Nat),true,wt,wb,(Q:Nat),wr,false,false, [], [],false,0, [], [], []⟩ aN aN aN W (by have:=Ce.o;simp only;omega));simp only[uQ.o]at CC;clear iA
     go_upto_region 12 with fail
     refine av ax _ 4 rfl (by kernel_rfl) (by kernel_rfl) (λ_=>ae.refl _ _) (λ_ _ _ h k=>h.trans k (by simp)) ?_;simp only[dc,dg,dF,dK];refine lq (.int .i64 (f:Nat)) ?_;refine lw 29 (.tmp 4) (W0.heap.size) ((qA 0 c cl (kp:Nat) true wt wb (Q:Nat) wr false false [] [])) underlying29 (λW hW=>aD (eZ.o.g.keeps hW)) ?_;refine aT 130 (#[.agg (j_ 0 c cl (kp:Nat) true wt wb (Q:Nat) wr false false [] [])]) (.int .i64 (CV:Nat)) (λ_=>by kernel_rfl) (λ_ _=>by kernel_rfl) (λW hW=>CC.o W) ?_;refine aK (.bool true) (λ_=>by kernel_rfl) (λW _=>(show _=Result.ok (Next.value (.bool ((f:Int)==(CV:Nat)))) W by kernel_rfl).trans (by rw[p7])) ?_;refine aq (λW vals hW ag=> ?_);simp only[af,aw]at ag
     try simp only[ai]at ag
     simp only[af,fill,Act.put,bo,bn,bh];clear ag;have n9:=zh (eZ.o.keeps hW);clear hW
     go_wp2_with (go_at_call 30;refine(cz _).mono ?_;rintro e w' ⟨rfl,rfl⟩;refine Hid.o ?_)
     refine zh ?_
     go_upto_region 13 with fail
     refine av ax _ 1 rfl (by kernel_rfl) (by kernel_rfl) (λ_=>ae.refl _ _) (λ_ _ _ h k=>h.trans k (by simp)) ?_;simp only[dc,dg,dF,dK];refine lw 29 (.tmp 4) (W0.heap.size) ((qA 0 c cl (kp:Nat) true wt wb (Q:Nat) wr false false [] [])) underlying29 (λW hW=>aD (n9.o.g.keeps hW)) ?_;refine aq (λW vals hW ag=> ?_);simp only[af,aw]at ag
     try simp only[ai]at ag
     simp only[af,fill,Act.put,bo,bn,bh];clear ag;have lF:=zh (n9.o.keeps hW);clear hW;refine wpList_store_row rfl (.tmp 4) (.tmp 74) 29 rfl W0.heap.size (j_ 0 c cl (kp:Nat) true wt wb (Q:Nat) wr false false [] []) (j_ 0 c cl (kp:Nat) true wt wb (Q:Nat) wr false false [] []) lF.o.g (by kernel_rfl) rfl (by simp[Value.oneCell']) rfl rfl ?_;intro w7 r7 k7;have ku:=zh r7;have kr:=zh (lF.o.rd.far k7 (λx hx=>by have:=lF.o.o;simp at hx;omega));have iN:=zh (lF.o.k.trans k7 (λx hx hlt=>by have:=lF.o.o;simp at hx;omega));clear r7 k7
     go_wp2_with fail
     obtain⟨d,Dp,Dt⟩:=cI;refine bD (aW (s:=4) (cs:=(qA 0 c cl (kp:Nat) true wt wb (Q:Nat) wr false false [] [])) rfl rfl (aD ku.o) Dp Dt (by kernel_rfl)) rfl ⟨iN.o, ?_⟩;rw[HT.o,Ev.o];exact⟨_,_,_,rfl,jz.empty rfl rfl rfl,kr.o⟩
    ·skip
     have HT:=zh (show X=none by rw[BX.o,aj iA]);have p7:((f:Int)==(CV:Nat))=false:=by simp;omega
     have CC:=zh (λW=>bQ ⟨0,false,false,0, [], [],0,c,cl,(kp:Nat),true,wt,wb,(Q:Nat),wr,false,false, [], [],false,0, [], [], []⟩ aN aN aN W (by have:=Ce.o;simp only;omega));simp only[uQ.o]at CC;clear iA
     go_upto_region 12 with fail
     refine av ax _ 4 rfl (by kernel_rfl) (by kernel_rfl) (λ_=>ae.refl _ _) (λ_ _ _ h k=>h.trans k (by simp)) ?_;simp only[dc,dg,dF,dK];refine lq (.int .i64 (f:Nat)) ?_;refine lw 29 (.tmp 4) (W0.heap.size) ((qA 0 c cl (kp:Nat) true wt wb (Q:Nat) wr false false [] [])) underlying29 (λW hW=>aD (eZ.o.g.keeps hW)) ?_;refine aT 130 (#[.agg (j_ 0 c cl (kp:Nat) true wt wb (Q:Nat) wr false false [] [])]) (.int .i64 (CV:Nat)) (λ_=>by kernel_rfl) (λ_ _=>by kernel_rfl) (λW hW=>CC.o W) ?_;refine aK (.bool false) (λ_=>by kernel_rfl) (λW _=>(show _=Result.ok (Next.value (.bool ((f:Int)==(CV:Nat)))) W by kernel_rfl).trans (by rw[p7])) ?_;refine aq (λW vals hW ag=> ?_);simp only[af,aw]at ag
     try simp only[ai]at ag
     simp only[af,fill,Act.put,bo,bn,bh];clear ag;have n9:=zh (eZ.o.keeps hW);clear hW
     go_wp2_with (go_at_call 30;refine(bK _).mono ?_;rintro e w' ⟨rfl,rfl⟩)
     exact⟨rfl,n9.o.k,by rw[HT.o]⟩
 | false=>
  have MU:=zh (Pw.o.trans (show _=(jj hu V5).bind λu=>(jj hp u.2).bind λpw=>if CV=f then some (iE f kp c [] [] u.1 pw.1,pw.2)else none by rw[ml,di,ml,di]));have iB:=gW.o.g.cell 10;simp only[cg,bU,fe]at iB
  go_upto_region 8 with fail
  clear iB
  cases hu with
  | true=>
   have jf:=gW.o.g.cell 15;simp only[cg,bU,fe]at jf
   go_upto_region 9 with fail
   clear jf
   rcases FF:cQ V5 with _ | ⟨u,V8⟩
   ·skip
    have HT:=zh (show X=none by rw[MU.o,ep,FF];rfl);have HE:=zh FF;have c0:=gW.o.b.cell 0;simp only[cg,bU]at c0;clear FF
    go_wp2_with fail
    refine(eI gW.o.rd HE.o).mono ?_;rintro e w3 ⟨hk,rfl⟩;exact⟨rfl,gW.o.k.trans hk (λ_ hx _=>hx),by rw[HT.o]⟩
   have D0:=zh (MU.o.trans (show _=(jj hp V8).bind λpw=>if CV=f then some (iE f kp c [] [] u pw.1,pw.2)else none by rw[ep,FF];rfl));have EU:=zh FF;have c0:=gW.o.b.cell 0;simp only[cg,bU]at c0;clear FF
   go_wp2_with fail
   refine(da gW.o.rd EU.o).mono ?_;rintro e Qr ⟨hk,rfl,cS⟩;unfold lI;have sQ:=zh (gW.o.read hk cS);clear hk cS c0;have f17:=sQ.o.g.frozen 17;have g17:=sQ.o.g.cell 17;simp only[cg,bU,fe]at g17
   go_upto_region 10 with fail
   obtain⟨Ml,Dx⟩:∃Ml,Qr.setCell ⟨W0.heap.size,17,none⟩ (.string ⟨u.toArray⟩)=Ml:=⟨_,rfl⟩;have gY:=zh (show om w Ml base r w.heap.size W0.heap.size (j_ 0 c cl (kp:Nat) false [] [] (Q:Nat) wr true hp u []) V8 by rw[<-Dx];exact sQ.o.put 17 _);rw[Dx];clear Dx f17 g17 sQ
   cases hp with
   | true=>
    have hU:=gY.o.g.cell 16;simp only[cg,bU,fe]at hU
    go_upto_region 11 with fail
    clear hU
    rcases tJ:cQ V8 with _ | ⟨pw,V9⟩
    ·skip
     have HT:=zh (show X=none by rw[D0.o,ep,tJ];rfl);have HE:=zh tJ;have c0:=gY.o.b.cell 0;simp only[cg,bU]at c0;clear tJ
     go_wp2_with fail
     refine(eI gY.o.rd HE.o).mono ?_;rintro e w3 ⟨hk,rfl⟩;exact⟨rfl,gY.o.k.trans hk (λ_ hx _=>hx),by rw[HT.o]⟩
    have B6:=zh (D0.o.trans (show _=if CV=f then some (iE f kp c [] [] u pw,V9)else none by rw[ep,tJ];rfl));have EP:=zh tJ;have c0:=gY.o.b.cell 0;simp only[cg,bU]at c0;clear tJ
    go_wp2_with fail
    refine(da gY.o.rd EP.o).mono ?_;rintro e K9 ⟨hk,rfl,cS⟩;unfold lI;have sQ:=zh (gY.o.read hk cS);clear hk cS c0;have f18:=sQ.o.g.frozen 18;have g18:=sQ.o.g.cell 18;simp only[cg,bU,fe]at g18
    go_upto_region 12 with fail
    obtain⟨DJ,q8⟩:∃DJ,K9.setCell ⟨W0.heap.size,18,none⟩ (.string ⟨pw.toArray⟩)=DJ:=⟨_,rfl⟩;have iZ:=zh (show om w DJ base r w.heap.size W0.heap.size (j_ 0 c cl (kp:Nat) false [] [] (Q:Nat) wr true true u pw) V9 by rw[<-q8];exact sQ.o.put 18 _);rw[q8];clear q8 f18 g18 sQ
    by_cases iA:CV=f
    ·skip
     have HT:=zh (show X=some (iE f kp c [] [] u pw,V9)by rw[B6.o,aE iA]);have p7:((f:Int)==(CV:Nat))=true:=by simp;omega
     have CC:=zh (λW=>bQ ⟨0,false,false,0, [], [],0,c,cl,(kp:Nat),false, [], [],(Q:Nat),wr,true,true,u,pw,false,0, [], [], []⟩ aN aN aN W (by have:=Ce.o;simp only;omega));simp only[uQ.o]at CC;clear iA
     go_upto_region 12 with fail
     refine av ax _ 4 rfl (by kernel_rfl) (by kernel_rfl) (λ_=>ae.refl _ _) (λ_ _ _ h k=>h.trans k (by simp)) ?_;simp only[dc,dg,dF,dK];refine lq (.int .i64 (f:Nat)) ?_;refine lw 29 (.tmp 4) (W0.heap.size) ((qA 0 c cl (kp:Nat) false [] [] (Q:Nat) wr true true u pw)) underlying29 (λW hW=>aD (iZ.o.g.keeps hW)) ?_;refine aT 130 (#[.agg (j_ 0 c cl (kp:Nat) false [] [] (Q:Nat) wr true true u pw)]) (.int .i64 (CV:Nat)) (λ_=>by kernel_rfl) (λ_ _=>by kernel_rfl) (λW hW=>CC.o W) ?_;refine aK (.bool true) (λ_=>by kernel_rfl) (λW _=>(show _=Result.ok (Next.value (.bool ((f:Int)==(CV:Nat)))) W by kernel_rfl).trans (by rw[p7])) ?_;refine aq (λW vals hW ag=> ?_);simp only[af,aw]at ag
     try simp only[ai]at ag
     simp only[af,fill,Act.put,bo,bn,bh];clear ag;have n9:=zh (iZ.o.keeps hW);clear hW
     go_wp2_with (go_at_call 30;refine(cz _).mono ?_;rintro e w' ⟨rfl,rfl⟩;refine Hid.o ?_)
     refine zh ?_
     go_upto_region 13 with fail
     refine av ax _ 1 rfl (by kernel_rfl) (by kernel_rfl) (λ_=>ae.refl _ _) (λ_ _ _ h k=>h.trans k (by simp)) ?_;simp only[dc,dg,dF,dK];refine lw 29 (.tmp 4) (W0.heap.size) ((qA 0 c cl (kp:Nat) false [] [] (Q:Nat) wr true true u pw)) underlying29 (λW hW=>aD (n9.o.g.keeps hW)) ?_;refine aq (λW vals hW ag=> ?_);simp only[af,aw]at ag
     try simp only[ai]at ag
     simp only[af,fill,Act.put,bo,bn,bh];clear ag;have lF:=zh (n9.o.keeps hW);clear hW;refine wpList_store_row rfl (.tmp 4) (.tmp 74) 29 rfl W0.heap.size (j_ 0 c cl (kp:Nat) false [] [] (Q:Nat) wr true true u pw) (j_ 0 c cl (kp:Nat) false [] [] (Q:Nat) wr true true u pw) lF.o.g (by kernel_rfl) rfl (by simp[Value.oneCell']) rfl rfl ?_;intro w7 r7 k7;have ku:=zh r7;have kr:=zh (lF.o.rd.far k7 (λx hx=>by have:=lF.o.o;simp at hx;omega));have iN:=zh (lF.o.k.trans k7 (λx hx hlt=>by have:=lF.o.o;simp at hx;omega));clear r7 k7
     go_wp2_with fail
     obtain⟨d,Dp,Dt⟩:=cI;refine bD (aW (s:=4) (cs:=(qA 0 c cl (kp:Nat) false [] [] (Q:Nat) wr true true u pw)) rfl rfl (aD ku.o) Dp Dt (by kernel_rfl)) rfl ⟨iN.o, ?_⟩;rw[HT.o,Ev.o];exact⟨_,_,_,rfl,jz.empty rfl rfl rfl,kr.o⟩
    ·skip
     have HT:=zh (show X=none by rw[B6.o,aj iA]);have p7:((f:Int)==(CV:Nat))=false:=by simp;omega
     have CC:=zh (λW=>bQ ⟨0,false,false,0, [], [],0,c,cl,(kp:Nat),false, [], [],(Q:Nat),wr,true,true,u,pw,false,0, [], [], []⟩ aN aN aN W (by have:=Ce.o;simp only;omega));simp only[uQ.o]at CC;clear iA
     go_upto_region 12 with fail
     refine av ax _ 4 rfl (by kernel_rfl) (by kernel_rfl) (λ_=>ae.refl _ _) (λ_ _ _ h k=>h.trans k (by simp)) ?_;simp only[dc,dg,dF,dK];refine lq (.int .i64 (f:Nat)) ?_;refine lw 29 (.tmp 4) (W0.heap.size) ((qA 0 c cl (kp:Nat) false [] [] (Q:Nat) wr true true u pw)) underlying29 (λW hW=>aD (iZ.o.g.keeps hW)) ?_;refine aT 130 (#[.agg (j_ 0 c cl (kp:Nat) false [] [] (Q:Nat) wr true true u pw)]) (.int .i64 (CV:Nat)) (λ_=>by kernel_rfl) (λ_ _=>by kernel_rfl) (λW hW=>CC.o W) ?_;refine aK (.bool false) (λ_=>by kernel_rfl) (λW _=>(show _=Result.ok (Next.value (.bool ((f:Int)==(CV:Nat)))) W by kernel_rfl).trans (by rw[p7])) ?_;refine aq (λW vals hW ag=> ?_);simp only[af,aw]at ag
     try simp only[ai]at ag
     simp only[af,fill,Act.put,bo,bn,bh];clear ag;have n9:=zh (iZ.o.keeps hW);clear hW
     go_wp2_with (go_at_call 30;refine(bK _).mono ?_;rintro e w' ⟨rfl,rfl⟩)
     exact⟨rfl,n9.o.k,by rw[HT.o]⟩
   | false=>
    have B0:=zh (D0.o.trans (show _=if CV=f then some (iE f kp c [] [] u [],V8)else none by rw[ml];rfl));have hU:=gY.o.g.cell 16;simp only[cg,bU,fe]at hU
    go_upto_region 12 with fail
    clear hU
    by_cases iA:CV=f
    ·skip
     have HT:=zh (show X=some (iE f kp c [] [] u [],V8)by rw[B0.o,aE iA]);have p7:((f:Int)==(CV:Nat))=true:=by simp;omega
     have CC:=zh (λW=>bQ ⟨0,false,false,0, [], [],0,c,cl,(kp:Nat),false, [], [],(Q:Nat),wr,true,false,u, [],false,0, [], [], []⟩ aN aN aN W (by have:=Ce.o;simp only;omega));simp only[uQ.o]at CC;clear iA
     go_upto_region 12 with fail
     refine av ax _ 4 rfl (by kernel_rfl) (by kernel_rfl) (λ_=>ae.refl _ _) (λ_ _ _ h k=>h.trans k (by simp)) ?_;simp only[dc,dg,dF,dK];refine lq (.int .i64 (f:Nat)) ?_;refine lw 29 (.tmp 4) (W0.heap.size) ((qA 0 c cl (kp:Nat) false [] [] (Q:Nat) wr true false u [])) underlying29 (λW hW=>aD (gY.o.g.keeps hW)) ?_;refine aT 130 (#[.agg (j_ 0 c cl (kp:Nat) false [] [] (Q:Nat) wr true false u [])]) (.int .i64 (CV:Nat)) (λ_=>by kernel_rfl) (λ_ _=>by kernel_rfl) (λW hW=>CC.o W) ?_;refine aK (.bool true) (λ_=>by kernel_rfl) (λW _=>(show _=Result.ok (Next.value (.bool ((f:Int)==(CV:Nat)))) W by kernel_rfl).trans (by rw[p7])) ?_;refine aq (λW vals hW ag=> ?_);simp only[af,aw]at ag
     try simp only[ai]at ag
     simp only[af,fill,Act.put,bo,bn,bh];clear ag;have n9:=zh (gY.o.keeps hW);clear hW
     go_wp2_with (go_at_call 30;refine(cz _).mono ?_;rintro e w' ⟨rfl,rfl⟩;refine Hid.o ?_)
     refine zh ?_
     go_upto_region 13 with fail
     refine av ax _ 1 rfl (by kernel_rfl) (by kernel_rfl) (λ_=>ae.refl _ _) (λ_ _ _ h k=>h.trans k (by simp)) ?_;simp only[dc,dg,dF,dK];refine lw 29 (.tmp 4) (W0.heap.size) ((qA 0 c cl (kp:Nat) false [] [] (Q:Nat) wr true false u [])) underlying29 (λW hW=>aD (n9.o.g.keeps hW)) ?_;refine aq (λW vals hW ag=> ?_);simp only[af,aw]at ag
     try simp only[ai]at ag
     simp only[af,fill,Act.put,bo,bn,bh];clear ag;have lF:=zh (n9.o.keeps hW);clear hW;refine wpList_store_row rfl (.tmp 4) (.tmp 74) 29 rfl W0.heap.size (j_ 0 c cl (kp:Nat) false [] [] (Q:Nat) wr true false u []) (j_ 0 c cl (kp:Nat) false [] [] (Q:Nat) wr true false u []) lF.o.g (by kernel_rfl) rfl (by simp[Value.oneCell']) rfl rfl ?_;intro w7 r7 k7;have ku:=zh r7;have kr:=zh (lF.o.rd.far k7 (λx hx=>by have:=lF.o.o;simp at hx;omega));have iN:=zh (lF.o.k.trans k7 (λx hx hlt=>by have:=lF.o.o;simp at hx;omega));clear r7 k7
     go_wp2_with fail
     obtain⟨d,Dp,Dt⟩:=cI;refine bD (aW (s:=4) (cs:=(qA 0 c cl (kp:Nat) false [] [] (Q:Nat) wr true false u [])) rfl rfl (aD ku.o) Dp Dt (by kernel_rfl)) rfl ⟨iN.o, ?_⟩;rw[HT.o,Ev.o];exact⟨_,_,_,rfl,jz.empty rfl rfl rfl,kr.o⟩
    ·skip
     have HT:=zh (show X=none by rw[B0.o,aj iA]);have p7:((f:Int)==(CV:Nat))=false:=by simp;omega
     have CC:=zh (λW=>bQ ⟨0,false,false,0, [], [],0,c,cl,(kp:Nat),false, [], [],(Q:Nat),wr,true,false,u, [],false,0, [], [], []⟩ aN aN aN W (by have:=Ce.o;simp only;omega));simp only[uQ.o]at CC;clear iA
     go_upto_region 12 with fail
     refine av ax _ 4 rfl (by kernel_rfl) (by kernel_rfl) (λ_=>ae.refl _ _) (λ_ _ _ h k=>h.trans k (by simp)) ?_;simp only[dc,dg,dF,dK];refine lq (.int .i64 (f:Nat)) ?_;refine lw 29 (.tmp 4) (W0.heap.size) ((qA 0 c cl (kp:Nat) false [] [] (Q:Nat) wr true false u [])) underlying29 (λW hW=>aD (gY.o.g.keeps hW)) ?_;refine aT 130 (#[.agg (j_ 0 c cl (kp:Nat) false [] [] (Q:Nat) wr true false u [])]) (.int .i64 (CV:Nat)) (λ_=>by kernel_rfl) (λ_ _=>by kernel_rfl) (λW hW=>CC.o W) ?_;refine aK (.bool false) (λ_=>by kernel_rfl) (λW _=>(show _=Result.ok (Next.value (.bool ((f:Int)==(CV:Nat)))) W by kernel_rfl).trans (by rw[p7])) ?_;refine aq (λW vals hW ag=> ?_);simp only[af,aw]at ag
     try simp only[ai]at ag
     simp only[af,fill,Act.put,bo,bn,bh];clear ag;have n9:=zh (gY.o.keeps hW);clear hW
     go_wp2_with (go_at_call 30;refine(bK _).mono ?_;rintro e w' ⟨rfl,rfl⟩)
     exact⟨rfl,n9.o.k,by rw[HT.o]⟩
  | false=>
   have DZ:=zh (MU.o.trans (show _=(jj hp V5).bind λpw=>if CV=f then some (iE f kp c [] [] [] pw.1,pw.2)else none by rw[ml];rfl));have jf:=gW.o.g.cell 15;simp only[cg,bU,fe]at jf
   go_upto_region 10 with fail
   clear jf
   cases hp with
   | true=>
    have hU:=gW.o.g.cell 16;simp only[cg,bU,fe]at hU
    go_upto_region 11 with fail
    clear hU
    rcases tJ:cQ V5 with _ | ⟨pw,V9⟩
    ·skip
     have HT:=zh (show X=none by rw[DZ.o,ep,tJ];rfl);have HE:=zh tJ;have c0:=gW.o.b.cell 0;simp only[cg,bU]at c0;clear tJ
     go_wp2_with fail
     refine(eI gW.o.rd HE.o).mono ?_;rintro e w3 ⟨hk,rfl⟩;exact⟨rfl,gW.o.k.trans hk (λ_ hx _=>hx),by rw[HT.o]⟩
    have BZ:=zh (DZ.o.trans (show _=if CV=f then some (iE f kp c [] [] [] pw,V9)else none by rw[ep,tJ];rfl));have EP:=zh tJ;have c0:=gW.o.b.cell 0;simp only[cg,bU]at c0;clear tJ
    go_wp2_with fail
    refine(da gW.o.rd EP.o).mono ?_;rintro e K9 ⟨hk,rfl,cS⟩;unfold lI;have sQ:=zh (gW.o.read hk cS);clear hk cS c0;have f18:=sQ.o.g.frozen 18;have g18:=sQ.o.g.cell 18;simp only[cg,bU,fe]at g18
    go_upto_region 12 with fail
    obtain⟨DJ,q8⟩:∃DJ,K9.setCell ⟨W0.heap.size,18,none⟩ (.string ⟨pw.toArray⟩)=DJ:=⟨_,rfl⟩;have iZ:=zh (show om w DJ base r w.heap.size W0.heap.size (j_ 0 c cl (kp:Nat) false [] [] (Q:Nat) wr false true [] pw) V9 by rw[<-q8];exact sQ.o.put 18 _);rw[q8];clear q8 f18 g18 sQ
    by_cases iA:CV=f
    ·skip
     have HT:=zh (show X=some (iE f kp c [] [] [] pw,V9)by rw[BZ.o,aE iA]);have p7:((f:Int)==(CV:Nat))=true:=by simp;omega
     have CC:=zh (λW=>bQ ⟨0,false,false,0, [], [],0,c,cl,(kp:Nat),false, [], [],(Q:Nat),wr,false,true, [],pw,false,0, [], [], []⟩ aN aN aN W (by have:=Ce.o;simp only;omega));simp only[uQ.o]at CC;clear iA
     go_upto_region 12 with fail
     refine av ax _ 4 rfl (by kernel_rfl) (by kernel_rfl) (λ_=>ae.refl _ _) (λ_ _ _ h k=>h.trans k (by simp)) ?_;simp only[dc,dg,dF,dK];refine lq (.int .i64 (f:Nat)) ?_;refine lw 29 (.tmp 4) (W0.heap.size) ((qA 0 c cl (kp:Nat) false [] [] (Q:Nat) wr false true [] pw)) underlying29 (λW hW=>aD (iZ.o.g.keeps hW)) ?_;refine aT 130 (#[.agg (j_ 0 c cl (kp:Nat) false [] [] (Q:Nat) wr false true [] pw)]) (.int .i64 (CV:Nat)) (λ_=>by kernel_rfl) (λ_ _=>by kernel_rfl) (λW hW=>CC.o W) ?_;refine aK (.bool true) (λ_=>by kernel_rfl) (λW _=>(show _=Result.ok (Next.value (.bool ((f:Int)==(CV:Nat)))) W by kernel_rfl).trans (by rw[p7])) ?_;refine aq (λW vals hW ag=> ?_);simp only[af,aw]at ag
     try simp only[ai]at ag
     simp only[af,fill,Act.put,bo,bn,bh];clear ag;have n9:=zh (iZ.o.keeps hW);clear hW
     go_wp2_with (go_at_call 30;refine(cz _).mono ?_;rintro e w' ⟨rfl,rfl⟩;refine Hid.o ?_)
     refine zh ?_
     go_upto_region 13 with fail
     refine av ax _ 1 rfl (by kernel_rfl) (by kernel_rfl) (λ_=>ae.refl _ _) (λ_ _ _ h k=>h.trans k (by simp)) ?_;simp only[dc,dg,dF,dK];refine lw 29 (.tmp 4) (W0.heap.size) ((qA 0 c cl (kp:Nat) false [] [] (Q:Nat) wr false true [] pw)) underlying29 (λW hW=>aD (n9.o.g.keeps hW)) ?_;refine aq (λW vals hW ag=> ?_);simp only[af,aw]at ag
     try simp only[ai]at ag
     simp only[af,fill,Act.put,bo,bn,bh];clear ag;have lF:=zh (n9.o.keeps hW);clear hW;refine wpList_store_row rfl (.tmp 4) (.tmp 74) 29 rfl W0.heap.size (j_ 0 c cl (kp:Nat) false [] [] (Q:Nat) wr false true [] pw) (j_ 0 c cl (kp:Nat) false [] [] (Q:Nat) wr false true [] pw) lF.o.g (by kernel_rfl) rfl (by simp[Value.oneCell']) rfl rfl ?_;intro w7 r7 k7;have ku:=zh r7;have kr:=zh (lF.o.rd.far k7 (λx hx=>by have:=lF.o.o;simp at hx;omega));have iN:=zh (lF.o.k.trans k7 (λx hx hlt=>by have:=lF.o.o;simp at hx;omega));clear r7 k7
     go_wp2_with fail
     obtain⟨d,Dp,Dt⟩:=cI;refine bD (aW (s:=4) (cs:=(qA 0 c cl (kp:Nat) false [] [] (Q:Nat) wr false true [] pw)) rfl rfl (aD ku.o) Dp Dt (by kernel_rfl)) rfl ⟨iN.o, ?_⟩;rw[HT.o,Ev.o];exact⟨_,_,_,rfl,jz.empty rfl rfl rfl,kr.o⟩
    ·skip
     have HT:=zh (show X=none by rw[BZ.o,aj iA]);have p7:((f:Int)==(CV:Nat))=false:=by simp;omega
     have CC:=zh (λW=>bQ ⟨0,false,false,0, [], [],0,c,cl,(kp:Nat),false, [], [],(Q:Nat),wr,false,true, [],pw,false,0, [], [], []⟩ aN aN aN W (by have:=Ce.o;simp only;omega));simp only[uQ.o]at CC;clear iA
     go_upto_region 12 with fail
     refine av ax _ 4 rfl (by kernel_rfl) (by kernel_rfl) (λ_=>ae.refl _ _) (λ_ _ _ h k=>h.trans k (by simp)) ?_;simp only[dc,dg,dF,dK];refine lq (.int .i64 (f:Nat)) ?_;refine lw 29 (.tmp 4) (W0.heap.size) ((qA 0 c cl (kp:Nat) false [] [] (Q:Nat) wr false true [] pw)) underlying29 (λW hW=>aD (iZ.o.g.keeps hW)) ?_;refine aT 130 (#[.agg (j_ 0 c cl (kp:Nat) false [] [] (Q:Nat) wr false true [] pw)]) (.int .i64 (CV:Nat)) (λ_=>by kernel_rfl) (λ_ _=>by kernel_rfl) (λW hW=>CC.o W) ?_;refine aK (.bool false) (λ_=>by kernel_rfl) (λW _=>(show _=Result.ok (Next.value (.bool ((f:Int)==(CV:Nat)))) W by kernel_rfl).trans (by rw[p7])) ?_;refine aq (λW vals hW ag=> ?_);simp only[af,aw]at ag
     try simp only[ai]at ag
     simp only[af,fill,Act.put,bo,bn,bh];clear ag;have n9:=zh (iZ.o.keeps hW);clear hW
     go_wp2_with (go_at_call 30;refine(bK _).mono ?_;rintro e w' ⟨rfl,rfl⟩)
     exact⟨rfl,n9.o.k,by rw[HT.o]⟩
   | false=>
    have BX:=zh (DZ.o.trans (show _=if CV=f then some (iE f kp c [] [] [] [],V5)else none by rw[ml];rfl));have hU:=gW.o.g.cell 16;simp only[cg,bU,fe]at hU
    go_upto_region 12 with fail
    clear hU
    by_cases iA:CV=f
    ·skip
     have HT:=zh (show X=some (iE f kp c [] [] [] [],V5)by rw[BX.o,aE iA]);have p7:((f:Int)==(CV:Nat))=true:=by simp;omega
     have CC:=zh (λW=>bQ ⟨0,false,false,0, [], [],0,c,cl,(kp:Nat),false, [], [],(Q:Nat),wr,false,false, [], [],false,0, [], [], []⟩ aN aN aN W (by have:=Ce.o;simp only;omega));simp only[uQ.o]at CC;clear iA
     go_upto_region 12 with fail
     refine av ax _ 4 rfl (by kernel_rfl) (by kernel_rfl) (λ_=>ae.refl _ _) (λ_ _ _ h k=>h.trans k (by simp)) ?_;simp only[dc,dg,dF,dK];refine lq (.int .i64 (f:Nat)) ?_;refine lw 29 (.tmp 4) (W0.heap.size) ((qA 0 c cl (kp:Nat) false [] [] (Q:Nat) wr false false [] [])) underlying29 (λW hW=>aD (gW.o.g.keeps hW)) ?_;refine aT 130 (#[.agg (j_ 0 c cl (kp:Nat) false [] [] (Q:Nat) wr false false [] [])]) (.int .i64 (CV:Nat)) (λ_=>by kernel_rfl) (λ_ _=>by kernel_rfl) (λW hW=>CC.o W) ?_;refine aK (.bool true) (λ_=>by kernel_rfl) (λW _=>(show _=Result.ok (Next.value (.bool ((f:Int)==(CV:Nat)))) W by kernel_rfl).trans (by rw[p7])) ?_;refine aq (λW vals hW ag=> ?_);simp only[af,aw]at ag
     try simp only[ai]at ag
     simp only[af,fill,Act.put,bo,bn,bh];clear ag;have n9:=zh (gW.o.keeps hW);clear hW
     go_wp2_with (go_at_call 30;refine(cz _).mono ?_;rintro e w' ⟨rfl,rfl⟩;refine Hid.o ?_)
     refine zh ?_
     go_upto_region 13 with fail
     refine av ax _ 1 rfl (by kernel_rfl) (by kernel_rfl) (λ_=>ae.refl _ _) (λ_ _ _ h k=>h.trans k (by simp)) ?_;simp only[dc,dg,dF,dK];refine lw 29 (.tmp 4) (W0.heap.size) ((qA 0 c cl (kp:Nat) false [] [] (Q:Nat) wr false false [] [])) underlying29 (λW hW=>aD (n9.o.g.keeps hW)) ?_;refine aq (λW vals hW ag=> ?_);simp only[af,aw]at ag
     try simp only[ai]at ag
     simp only[af,fill,Act.put,bo,bn,bh];clear ag;have lF:=zh (n9.o.keeps hW);clear hW;refine wpList_store_row rfl (.tmp 4) (.tmp 74) 29 rfl W0.heap.size (j_ 0 c cl (kp:Nat) false [] [] (Q:Nat) wr false false [] []) (j_ 0 c cl (kp:Nat) false [] [] (Q:Nat) wr false false [] []) lF.o.g (by kernel_rfl) rfl (by simp[Value.oneCell']) rfl rfl ?_;intro w7 r7 k7;have ku:=zh r7;have kr:=zh (lF.o.rd.far k7 (λx hx=>by have:=lF.o.o;simp at hx;omega));have iN:=zh (lF.o.k.trans k7 (λx hx hlt=>by have:=lF.o.o;simp at hx;omega));clear r7 k7
     go_wp2_with fail
     obtain⟨d,Dp,Dt⟩:=cI;refine bD (aW (s:=4) (cs:=(qA 0 c cl (kp:Nat) false [] [] (Q:Nat) wr false false [] [])) rfl rfl (aD ku.o) Dp Dt (by kernel_rfl)) rfl ⟨iN.o, ?_⟩;rw[HT.o,Ev.o];exact⟨_,_,_,rfl,jz.empty rfl rfl rfl,kr.o⟩
    ·skip
     have HT:=zh (show X=none by rw[BX.o,aj iA]);have p7:((f:Int)==(CV:Nat))=false:=by simp;omega
     have CC:=zh (λW=>bQ ⟨0,false,false,0, [], [],0,c,cl,(kp:Nat),false, [], [],(Q:Nat),wr,false,false, [], [],false,0, [], [], []⟩ aN aN aN W (by have:=Ce.o;simp only;omega));simp only[uQ.o]at CC;clear iA
     go_upto_region 12 with fail
     refine av ax _ 4 rfl (by kernel_rfl) (by kernel_rfl) (λ_=>ae.refl _ _) (λ_ _ _ h k=>h.trans k (by simp)) ?_;simp only[dc,dg,dF,dK];refine lq (.int .i64 (f:Nat)) ?_;refine lw 29 (.tmp 4) (W0.heap.size) ((qA 0 c cl (kp:Nat) false [] [] (Q:Nat) wr false false [] [])) underlying29 (λW hW=>aD (gW.o.g.keeps hW)) ?_;refine aT 130 (#[.agg (j_ 0 c cl (kp:Nat) false [] [] (Q:Nat) wr false false [] [])]) (.int .i64 (CV:Nat)) (λ_=>by kernel_rfl) (λ_ _=>by kernel_rfl) (λW hW=>CC.o W) ?_;refine aK (.bool false) (λ_=>by kernel_rfl) (λW _=>(show _=Result.ok (Next.value (.bool ((f:Int)==(CV:Nat)))) W by kernel_rfl).trans (by rw[p7])) ?_;refine aq (λW vals hW ag=> ?_);simp only[af,aw]at ag
     try simp only[ai]at ag
     simp only[af,fill,Act.put,bo,bn,bh];clear ag;have n9:=zh (gW.o.keeps hW);clear hW
     go_wp2_with (go_at_call 30;refine(bK _).mono ?_;rintro e w' ⟨rfl,rfl⟩)
     exact⟨rfl,n9.o.k,by rw[HT.o]⟩
end Go.Proofs.YtahbikfbjenfpaaGreatDoor
