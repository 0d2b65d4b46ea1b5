/- Package packet: how a connect is read. -/
import Derived.Test.YtahbikfbjenfpaaGreatDoorPa30

namespace Go.Proofs.YtahbikfbjenfpaaGreatDoor
open Go.RowKit

theorem con_bits:∀f:Fin 256,(decide (0 < bits BinOp.and IntKind.i64 ((f.val:Nat):Int) 128)=pkBit f.val 128∧decide (0 < bits BinOp.and IntKind.i64 ((f.val:Nat):Int) 64)=pkBit f.val 64∧decide (0 < bits BinOp.and IntKind.i64 ((f.val:Nat):Int) 32)=pkBit f.val 32)∧(decide (0 < bits BinOp.and IntKind.i64 ((f.val:Nat):Int) 4)=pkBit f.val 4∧decide (0 < bits BinOp.and IntKind.i64 ((f.val:Nat):Int) 2)=pkBit f.val 2)∧bits BinOp.and IntKind.i64 (((f.val:Nat):Int) / 8) 3=((f.val / 8 % 4:Nat):Int):=by decide+kernel
/-- What is known of a reading: the reader's box, the packet's. -/
structure CnSt (w W:World)(base r B G:Nat)(X:Array Value)(l:List UInt8):Prop where
 k:Keeps w W [r]
 b:Row W B 74 #[.pointer (some ⟨r,0,none⟩)]
 g:Row W G 29 X
 rd:Rd W base r l
 o:r < B∧B < G∧w.heap.size≤B
section
variable {w W W' :World} {base r B G:Nat} {X:Array Value} {l t:List UInt8}
theorem CnSt.put (h:CnSt w W base r B G X l)(i:Nat)(v:Value):CnSt w (W.setCell ⟨G,i,none⟩ v) base r B G (X.setIfInBounds i v) l:=by
 have hk:Keeps W (W.setCell ⟨G,i,none⟩ v) [G]:=Keeps.setCell _ _ _;obtain⟨o1,o2,o3⟩:=h.o;exact⟨h.k.trans hk (fun x hx hlt=>by simp at hx;omega),h.b.keep hk (by simp;omega),h.g.store i v,h.rd.far hk (fun x hx=>by simp at hx;omega),h.o⟩
theorem CnSt.read (h:CnSt w W base r B G X l)(hk:Keeps W W' [r])(hr:Rd W' base r t):CnSt w W' base r B G X t:=by
 obtain⟨o1,o2,o3⟩:=h.o;exact⟨h.k.trans hk (fun _ hx _=>hx),h.b.keep hk (by simp;omega),h.g.keep hk (by simp;omega),hr,h.o⟩
theorem CnSt.keeps (h:CnSt w W base r B G X l)(hk:Keeps W W' []):CnSt w W' base r B G X l:=
 h.read (hk.weaken (by simp)) (h.rd.keep hk (by simp))
end
def cn5 (f kp:Nat)(c wt wb u l:List UInt8):Option (Pk×List UInt8):=(rdIf (pkBit f 64) l).bind fun pw=>if pkConn (pkCf f)=f then some (pkCm f kp c wt wb u pw.1,pw.2)else none
def cn4 (f kp:Nat)(c wt wb l:List UInt8):Option (Pk×List UInt8):=(rdIf (pkBit f 128) l).bind fun u=>cn5 f kp c wt wb u.1 u.2
def cn3 (f kp:Nat)(c l:List UInt8):Option (Pk×List UInt8):=(rdIf (pkBit f 4) l).bind fun wt=>(rdIf (pkBit f 4) wt.2).bind fun wb=>cn4 f kp c wt.1 wb.1 wb.2
theorem rdIf_yes (l:List UInt8):rdIf true l=rdTx l:=rfl
theorem rdIf_no (l:List UInt8):rdIf false l=some ([],l):=rfl
set_option maxRecDepth 100000 in
set_option maxHeartbeats 16000000 in
theorem pkRd1_any (w:World)(base r:Nat)(fl:Int)(l:List UInt8)(h:Rd w base r l):
  Calls Tryz.prog 131 #[.agg #[.pointer (some ⟨r,0,none⟩)],.int .i64 fl] w (PkRdPost w base r (rdCon l)):=by
 have HD:=zh (show rdCon l=(rdTx l).bind fun m=>if m.1=pkMq then(rdN 1 m.2).bind fun v=>if v.1=4 then rdCon2 v.2 else none else none from rfl)
 generalize rdCon l=X at HD ⊢
 have HNR:=zh h.lt;obtain⟨W0,hW0⟩:∃W0,w.alloc (.cells #[.pointer (some ⟨r,0,none⟩)] 74)=W0:=⟨_,rfl⟩;obtain⟨W1,hW1⟩:∃W1,W0.alloc (.cells zP0 29)=W1:=⟨_,rfl⟩;have k0:Keeps w W0 []:=by rw[←hW0];exact Keeps.alloc _ _
 have k1:Keeps W0 W1 []:=by rw[←hW1];exact Keeps.alloc _ _
 have s0:W0.heap.size=w.heap.size+1:=by rw[←hW0];simp
 have s1:W1.heap.size=w.heap.size+2:=by rw[←hW1];simp[s0]
 have HB:=zh (show Row W1 w.heap.size 74 #[.pointer (some ⟨r,0,none⟩)]from(show Row W0 w.heap.size 74 #[.pointer (some ⟨r,0,none⟩)]by rw[←hW0];exact Row.new _ _ _).keeps k1);have HR:=zh (show Row W1 W0.heap.size 29 zP0 by rw[←hW1];exact Row.new _ _ _);have HK:=zh (k0.then_ k1);have HS:=zh (And.intro s0 s1);have HRD:=zh ((h.keep k0 (by simp)).keep k1 (by simp));have c0:=HB.out.cell 0;simp only[zga,zgz]at c0;have ST:=zh (show CnSt w W1 base r w.heap.size W0.heap.size zP0 l from⟨HK.out.weaken (by simp),HB.out,HR.out,HRD.out,by have:=HNR.out;have:=HS.out;omega⟩);clear k0 k1 s0 s1 h HK HB HR HRD;have HXO:=zh (show X=X from rfl);clear HXO
 rcases hE1:rdTx l with _ | ⟨m,V1⟩
 ·have HT:=zh (show X=none by rw[HD.out,hE1];rfl)
  have HE:=zh hE1;clear hE1
  go_enter Tryz.func131,Tryz.ntmps131
  go_wp2_with fail
  refine(pvTxt_none ST.out.rd HE.out).mono ?_;rintro e w3 ⟨hk,rfl⟩;exact⟨rfl,ST.out.k.trans hk (fun _ hx _=>hx),by rw[HT.out]⟩
 by_cases hm:m= [77,81,84,84]
 case neg=>
  have HT:=zh (show X=none by rw[HD.out,hE1,Option.bind_some,if_neg (show¬(m,V1).1=pkMq from hm)]);have HE:=zh hE1;have hmb:(m== [77,81,84,84])=false:=by simpa using hm
  clear hE1 hm
  go_enter Tryz.func131,Tryz.ntmps131
  go_wp2_with fail
  refine(pvTxt_some ST.out.rd HE.out).mono ?_;rintro e w3 ⟨hk,rfl,hrd⟩;unfold strV;have ST1:=zh (ST.out.read hk hrd);clear hk hrd c0
  go_wp2_with (go_at_call 30;refine(pvMust_no _).mono ?_;rintro e w' ⟨rfl,rfl⟩)
  exact⟨rfl,ST1.out.k,by rw[HT.out]⟩
 subst hm;have HD1:=zh (show X=(rdN 1 V1).bind fun v=>if v.1=4 then rdCon2 v.2 else none by rw[HD.out,hE1,Option.bind_some,if_pos (show([77,81,84,84]:List UInt8)=pkMq from rfl)]);have HE1:=zh hE1;clear hE1 HD
 rcases hE2:rdN 1 V1 with _ | ⟨v,V2⟩
 ·have HT:=zh (show X=none by rw[HD1.out,hE2];rfl)
  have HE:=zh hE2;clear hE2
  go_enter Tryz.func131,Tryz.ntmps131
  go_wp2_with fail
  refine(pvTxt_some ST.out.rd HE1.out).mono ?_;rintro e w3 ⟨hk,rfl,hrd⟩;unfold strV;have ST1:=zh (ST.out.read hk hrd);clear hk hrd c0 hW0 hW1;have c0:=ST1.out.b.cell 0;simp only[zga,zgz]at c0
  go_wp2_with fail
  refine(pvNum_none (k' :=1) ST1.out.rd HE.out (by omega) (by omega) rfl).mono ?_;rintro e w3 ⟨hk,rfl⟩;exact⟨rfl,ST1.out.k.trans hk (fun _ hx _=>hx),by rw[HT.out]⟩
 have HE2:=zh hE2
 by_cases hv:v=4
 case neg=>
  have HT:=zh (show X=none by rw[HD1.out,hE2,Option.bind_some,if_neg hv]);have hvb:((v:Int)==4)=false:=by simp;omega
  clear hE2 hv
  go_enter Tryz.func131,Tryz.ntmps131
  go_wp2_with fail
  refine(pvTxt_some ST.out.rd HE1.out).mono ?_;rintro e w3 ⟨hk,rfl,hrd⟩;unfold strV;have ST1:=zh (ST.out.read hk hrd);clear hk hrd c0 hW0 hW1;have c0:=ST1.out.b.cell 0;simp only[zga,zgz]at c0
  go_wp2_with fail
  refine(pvNum1_some ST1.out.rd HE2.out).mono ?_;rintro e w3 ⟨hk,rfl,hrd⟩;have ST2:=zh (ST1.out.read hk hrd);clear hk hrd c0
  go_wp2_with (go_at_call 30;refine(pvMust_no _).mono ?_;rintro e w' ⟨rfl,rfl⟩)
  exact⟨rfl,ST2.out.k,by rw[HT.out]⟩
 subst hv;have HD2:=zh (show X=rdCon2 V2 by rw[HD1.out,hE2,Option.bind_some,if_pos rfl]);clear hE2 HD1
 go_enter Tryz.func131,Tryz.ntmps131
 go_wp2_with fail
 refine(pvTxt_some ST.out.rd HE1.out).mono ?_;rintro e w3 ⟨hk,rfl,hrd⟩;unfold strV;have ST1:=zh (ST.out.read hk hrd);clear hk hrd c0 hW0 hW1;have c0:=ST1.out.b.cell 0;simp only[zga,zgz]at c0
 go_wp2_with fail
 refine(pvNum1_some ST1.out.rd HE2.out).mono ?_;rintro e w4 ⟨hk,rfl,hrd⟩;have ST2:=zh (ST1.out.read hk hrd);clear hk hrd c0;have c0:=ST2.out.b.cell 0;simp only[zga,zgz]at c0
 go_wp2_with (go_at_call 30;refine(pvMust_yes _).mono ?_;rintro e w' ⟨rfl,rfl⟩)
 rcases hE3:rdN 1 V2 with _ | ⟨f,V3⟩
 ·have HT:=zh (show X=none by rw[HD2.out];unfold rdCon2;rw[hE3];rfl)
  refine(pvNum_none (k' :=1) ST2.out.rd hE3 (by omega) (by omega) rfl).mono ?_;rintro e w3 ⟨hk,rfl⟩;exact⟨rfl,ST2.out.k.trans hk (fun _ hx _=>hx),by rw[HT.out]⟩
 have hf:=(rdN_sound hE3).2.1;have HD3:=zh (show X=(rdN 2 V3).bind fun kp=>(rdTx kp.2).bind fun c=>cn3 f kp.1 c.1 c.2 by rw[HD2.out];unfold rdCon2;rw[hE3];rfl);refine(pvNum1_some ST2.out.rd hE3).mono ?_;rintro e w5 ⟨hk,rfl,hrd⟩;have ST3:=zh (ST2.out.read hk hrd);clear hk hrd c0 hE3 HD2;obtain⟨CV,hCV⟩:∃CV,pkConn (pkCf f)=CV:=⟨_,rfl⟩;have HCV:=zh (show∀(c:List UInt8) (kp:Int) (wt wb u pw:List UInt8),pkConn ⟨0,false,false,0, [], [],0,c,pkBit f 2,kp,pkBit f 4,wt,wb,(f / 8 % 4:Nat),pkBit f 32,pkBit f 128,pkBit f 64,u,pw,false,0, [], [], []⟩=CV from fun c kp wt wb u pw=>by rw[←hCV];unfold pkConn pkCf;rfl);have HCm:=zh (show∀(kp:Nat) (c wt wb u pw:List UInt8),pkCm f kp c wt wb u pw=⟨1,false,false,0, [], [],0,c,pkBit f 2,(kp:Int),pkBit f 4,wt,wb,(f / 8 % 4:Nat),pkBit f 32,pkBit f 128,pkBit f 64,u,pw,false,0, [], [], []⟩from fun _ _ _ _ _ _=>rfl);have HD4:=zh (show∀(kp:Nat) (c l:List UInt8),cn3 f kp c l=(rdIf (pkBit f 4) l).bind fun wt=>(rdIf (pkBit f 4) wt.2).bind fun wb=>(rdIf (pkBit f 128) wb.2).bind fun u=>(rdIf (pkBit f 64) u.2).bind fun pw=>if CV=f then some (pkCm f kp c wt.1 wb.1 u.1 pw.1,pw.2)else none by
  intro kp c l;rw[←hCV];rfl)
 obtain⟨⟨b1,b2,b3⟩,⟨b4,b5⟩,b6⟩:(decide (0 < bits BinOp.and IntKind.i64 ((f:Nat):Int) 128)=pkBit f 128∧decide (0 < bits BinOp.and IntKind.i64 ((f:Nat):Int) 64)=pkBit f 64∧decide (0 < bits BinOp.and IntKind.i64 ((f:Nat):Int) 32)=pkBit f 32)∧(decide (0 < bits BinOp.and IntKind.i64 ((f:Nat):Int) 4)=pkBit f 4∧decide (0 < bits BinOp.and IntKind.i64 ((f:Nat):Int) 2)=pkBit f 2)∧bits BinOp.and IntKind.i64 (((f:Nat):Int) / 8) 3=((f / 8 % 4:Nat):Int):=con_bits ⟨f,hf⟩;have hQ4:f / 8 % 4 < 4:=Nat.mod_lt _ (by omega)
 generalize pkBit f 128=hu at b1 HCV HCm HD4
 generalize pkBit f 64=hp at b2 HCV HCm HD4
 generalize pkBit f 32=wr at b3 HCV HCm HD4
 generalize pkBit f 4=hw at b4 HCV HCm HD4
 generalize pkBit f 2=cl at b5 HCV HCm HD4
 generalize f / 8 % 4=Q at b6 HCV HCm HD4 hQ4
 clear hCV hf;have HQ4:=zh hQ4;clear hQ4;have f15:=ST3.out.g.frozen 15;have g15:=ST3.out.g.cell 15;simp only[zga,zgz,zgs]at g15;have f16:=ST3.out.g.frozen 16;have g16:=ST3.out.g.cell 16;simp only[zga,zgz,zgs]at g16;have f14:=ST3.out.g.frozen 14;have g14:=ST3.out.g.cell 14;simp only[zga,zgz,zgs]at g14;have f10:=ST3.out.g.frozen 10;have g10:=ST3.out.g.cell 10;simp only[zga,zgz,zgs]at g10;have f8:=ST3.out.g.frozen 8;have g8:=ST3.out.g.cell 8;simp only[zga,zgz,zgs]at g8;have f13:=ST3.out.g.frozen 13;have g13:=ST3.out.g.cell 13;simp only[zga,zgz,zgs]at g13
 go_upto_region 5 with fail
 clear b1 b2 b3 b4 b5 b6 f15 f16 f14 f10 f8 f13 g15 g16 g14 g10 g8 g13;obtain⟨W6,hW6⟩:∃W6,(((((w5.setCell ⟨W0.heap.size,15,none⟩ (.bool hu)).setCell ⟨W0.heap.size,16,none⟩ (.bool hp)).setCell ⟨W0.heap.size,14,none⟩ (.bool wr)).setCell ⟨W0.heap.size,10,none⟩ (.bool hw)).setCell ⟨W0.heap.size,8,none⟩ (.bool cl)).setCell ⟨W0.heap.size,13,none⟩ (.int .i64 (Q:Nat))=W6:=⟨_,rfl⟩;have ST6:=zh (show CnSt w W6 base r w.heap.size W0.heap.size (zP 0 false false 0 [] [] 0 [] cl 0 hw [] [] (Q:Nat) wr hu hp [] [] false 0 (.slice none 0 0) (.slice none 0 0) (.slice none 0 0)) V3 by rw[←hW6];exact(((((ST3.out.put 15 _).put 16 _).put 14 _).put 10 _).put 8 _).put 13 _);rw[hW6];clear hW6 ST3 ST2 ST1 ST;have HRD:=zh ST6.out.rd;have MI:=fun(W:World) (hC:rdC r W6 W)=>(ST6.out.b.keep (show Keeps W6 W [r]from hC) (by have:=ST6.out.o;simp;omega)).cell 0
 simp only[zga,zgz]at MI
 rcases hE1:rdN 2 V3 with _ | ⟨kp,V4⟩
 ·skip
  have HNO:=zh (show X=none by rw[HD3.out,hE1];rfl);have E1:=zh hE1;clear hE1;have LH:LightK [⟨1, [], []⟩] (rdC r) (rdA base r V3 (rdL2 V3 V3)):=rdLight;refine wp_region_writersD [⟨1, [], []⟩] (rdC r) (rdA base r V3 (rdL2 V3 V3)) _ 1 [] _ rfl LH (by kernel_rfl) rfl (by kernel_rfl) ?_;apply loosed_is 0 _ rfl (by decide)
  ·intro W vals hW hkn
   have hC:=hW.c;simp only[knowsK]at hkn
   try simp only[and_true]at hkn
   clear hkn;have m:=MI W hC;refine⟨?_⟩;simp only[fill];go_simp
   first | exact⟨LH.stp (Keeps.refl _ _),rfl⟩ | exact⟨LH.stp (Keeps.alloc _ _),rfl⟩
  simp only[addEnt];refine loosed_dies rfl (fun W vals hW hkn=> ?_) ?_
  ·have hC:=hW.c
   simp only[knowsK]at hkn
   try simp only[and_true]at hkn
   have hr:Rd W base r V3:=(hW.a ⟨1, [], []⟩ (by simp) (.inl rfl)).1 HRD.out;clear hkn;simp only[fill,Act.put,zsa,zsc,zsz];refine⟨rfl,58, #[.agg #[.pointer (some ⟨r,0,none⟩)],.int .i64 2],W,by go_simp, ?_⟩;refine(pvNum_none (k' :=2) hr E1.out (by omega) (by omega) rfl).mono ?_;rintro e w9 ⟨hk9,rfl⟩;refine⟨_,rfl,fun a' hd' ht' => ?_⟩;obtain⟨t',d'⟩:=a';simp only at hd';subst hd';simp only[Exit.then];exact⟨rfl,(ST6.out.k.trans (show Keeps W6 _ [r]from hC) (fun _ hx _=>hx)).trans hk9 (fun _ hx _=>hx),by rw[HNO.out]⟩
  simp only[addEnt];apply loosed_is 2 _ rfl (by decide)
  ·intro W vals hW hkn
   have hC:=hW.c;simp only[knowsK]at hkn
   try simp only[and_true]at hkn
   clear hkn;have m:=MI W hC;refine⟨?_⟩;simp only[fill];go_simp
   first | exact⟨LH.stp (Keeps.refl _ _),rfl⟩ | exact⟨LH.stp (Keeps.alloc _ _),rfl⟩
  simp only[addEnt];refine loosed_skip 3 rfl (by decide) (by kernel_rfl) ?_;simp only[addEnt];refine loosed_skip 4 rfl (by decide) (by kernel_rfl) ?_;simp only[addEnt];refine loosed_skip 5 rfl (by decide) (by kernel_rfl) ?_;simp only[addEnt];refine loosed_skip 6 rfl (by decide) (by kernel_rfl) ?_;simp only[addEnt];refine loosed_skip 7 rfl (by decide) (by kernel_rfl) ?_;simp only[addEnt];exact loosed_nil
 have E1:=zh hE1;have lE1:V4.length < V3.length:=by
  have:=(rdN_sound hE1).2.2;omega
 clear hE1
 rcases hE2:rdTx V4 with _ | ⟨c,V5⟩
 ·skip
  have HNO:=zh (show X=none by rw[HD3.out,E1.out,Option.bind_some];simp only;rw[hE2];rfl);have E2:=zh hE2;clear hE2;have LH:LightK [⟨1, [], []⟩,⟨3, [], []⟩] (rdC r) (rdA base r V4 (rdL2 V3 V4)):=rdLight;refine wp_region_writersD [⟨1, [], []⟩,⟨3, [], []⟩] (rdC r) (rdA base r V4 (rdL2 V3 V4)) _ 3 [44] _ rfl LH (by kernel_rfl) rfl (by kernel_rfl) ?_;apply loosed_is 0 _ rfl (by decide)
  ·intro W vals hW hkn
   have hC:=hW.c;simp only[knowsK]at hkn
   try simp only[and_true]at hkn
   clear hkn;have m:=MI W hC;refine⟨?_⟩;simp only[fill];go_simp
   first | exact⟨LH.stp (Keeps.refl _ _),rfl⟩ | exact⟨LH.stp (Keeps.alloc _ _),rfl⟩
  simp only[addEnt];refine loosed_had 1 [] (fun _ v W' =>v= .int .i64 (kp:Nat)∧Rd W' base r V4) rfl (by decide) (by kernel_rfl) (fun W vals hW hkn φ' hφ=> ?_) ?_
  ·have hC:=hW.c
   simp only[knowsK]at hkn
   try simp only[and_true]at hkn
   have hr:Rd W base r V3:=(hW.a ⟨1, [], []⟩ (by simp) (.inl rfl)).1 HRD.out;clear hkn;refine⟨?_⟩;simp only[fill];go_simp;exact loosek_writes LH hφ ((pvNum2_some hr E1.out).mono (by rintro e w9 ⟨h1,h2,h3⟩;exact⟨_,h2,rdStp hr h1 (by simp[rdL2] <;> omega) (by simp[rdL2] <;> omega),rfl,h3⟩))
  simp only[addEnt];apply loosed_is 2 _ rfl (by decide)
  ·intro W vals hW hkn
   have hC:=hW.c;simp only[knowsK]at hkn
   try simp only[and_true]at hkn
   clear hkn;have m:=MI W hC;refine⟨?_⟩;simp only[fill];go_simp
   first | exact⟨LH.stp (Keeps.refl _ _),rfl⟩ | exact⟨LH.stp (Keeps.alloc _ _),rfl⟩
  simp only[addEnt];refine loosed_dies rfl (fun W vals hW hkn=> ?_) ?_
  ·have hC:=hW.c
   simp only[knowsK]at hkn
   try simp only[and_true]at hkn
   obtain⟨W1,h0,h1,_,hrd⟩:=hkn (by decide);have hr:Rd W base r V4:=(h1.a ⟨3, [], []⟩ (by simp) (.inr (.inr (.inl rfl)))).1 hrd;clear hkn;simp only[fill,Act.put,zsa,zsc,zsz];refine⟨rfl,71, #[.agg #[.pointer (some ⟨r,0,none⟩)]],W,by go_simp, ?_⟩;refine(pvTxt_none hr E2.out).mono ?_;rintro e w9 ⟨hk9,rfl⟩;refine⟨_,rfl,fun a' hd' ht' => ?_⟩;obtain⟨t',d'⟩:=a';simp only at hd';subst hd';simp only[Exit.then];exact⟨rfl,(ST6.out.k.trans (show Keeps W6 _ [r]from hC) (fun _ hx _=>hx)).trans hk9 (fun _ hx _=>hx),by rw[HNO.out]⟩
  simp only[addEnt];apply loosed_is 4 _ rfl (by decide)
  ·intro W vals hW hkn
   clear hkn;have hC:=hW.c;refine⟨?_⟩;simp only[fill];go_simp
   first | exact⟨LH.stp (Keeps.refl _ _),rfl⟩ | exact⟨LH.stp (Keeps.alloc _ _),rfl⟩
  simp only[addEnt];refine loosed_skip 5 rfl (by decide) (by kernel_rfl) ?_;simp only[addEnt];refine loosed_skip 6 rfl (by decide) (by kernel_rfl) ?_;simp only[addEnt];refine loosed_skip 7 rfl (by decide) (by kernel_rfl) ?_;simp only[addEnt];exact loosed_nil
 have E2:=zh hE2;have lE2:V5.length < V4.length:=by
  have:=(rdTx_sound hE2).2.2;omega
 clear hE2;have LH:LightK [⟨1, [], []⟩,⟨3, [], []⟩] (rdC r) (rdA base r V5 (rdL2 V3 V4)):=rdLight;refine wp_region_writersL [⟨1, [], []⟩,⟨3, [], []⟩] (rdC r) (rdA base r V5 (rdL2 V3 V4)) _ 5 LH (by kernel_rfl) rfl (by kernel_rfl) ?_;simp only[zts,ztz,zds,zdz];apply loosek_is 0 _ rfl
 ·intro W vals hW hkn
  have hC:=hW.c;simp only[knowsK]at hkn
  try simp only[and_true]at hkn
  clear hkn;have m:=MI W hC;refine⟨?_⟩;simp only[fill];go_simp
  first | exact⟨LH.stp (Keeps.refl _ _),rfl⟩ | exact⟨LH.stp (Keeps.alloc _ _),rfl⟩
 simp only[addEnt];refine loosek_had 1 [] (fun _ v W' =>v= .int .i64 (kp:Nat)∧Rd W' base r V4) rfl (by kernel_rfl) (fun W vals hW hkn φ' hφ=> ?_) ?_
 ·have hC:=hW.c
  simp only[knowsK]at hkn
  try simp only[and_true]at hkn
  have hr:Rd W base r V3:=(hW.a ⟨1, [], []⟩ (by simp) (.inl rfl)).1 HRD.out;clear hkn;refine⟨?_⟩;simp only[fill];go_simp;exact loosek_writes LH hφ ((pvNum2_some hr E1.out).mono (by rintro e w9 ⟨h1,h2,h3⟩;exact⟨_,h2,rdStp hr h1 (by simp[rdL2] <;> omega) (by simp[rdL2] <;> omega),rfl,h3⟩))
 simp only[addEnt];apply loosek_is 2 _ rfl
 ·intro W vals hW hkn
  have hC:=hW.c;simp only[knowsK]at hkn
  try simp only[and_true]at hkn
  clear hkn;have m:=MI W hC;refine⟨?_⟩;simp only[fill];go_simp
  first | exact⟨LH.stp (Keeps.refl _ _),rfl⟩ | exact⟨LH.stp (Keeps.alloc _ _),rfl⟩
 simp only[addEnt];refine loosek_had 3 [44] (fun _ v W' =>v= .string ⟨c.toArray⟩∧Rd W' base r V5) rfl (by kernel_rfl) (fun W vals hW hkn φ' hφ=> ?_) ?_
 ·have hC:=hW.c
  simp only[knowsK]at hkn
  try simp only[and_true]at hkn
  obtain⟨W1,h0,h1,_,hrd⟩:=hkn (by decide);have hr:Rd W base r V4:=(h1.a ⟨3, [], []⟩ (by simp) (.inr (.inr (.inl rfl)))).1 hrd;clear hkn;refine⟨?_⟩;simp only[fill];go_simp;exact loosek_writes LH hφ ((pvTxt_some hr E2.out).mono (by rintro e w9 ⟨h1,h2,h3⟩;exact⟨_,h2,rdStp hr h1 (by simp[rdL2] <;> omega) (by simp[rdL2] <;> omega),rfl,h3⟩))
 simp only[addEnt];apply loosek_is 4 _ rfl
 ·intro W vals hW hkn
  clear hkn;have hC:=hW.c;refine⟨?_⟩;simp only[fill];go_simp
  first | exact⟨LH.stp (Keeps.refl _ _),rfl⟩ | exact⟨LH.stp (Keeps.alloc _ _),rfl⟩
 simp only[addEnt];refine loosek_nil (fun W9 vals hW hkn=> ?_);simp only[knowsAllK]at hkn
 try simp only[and_true]at hkn
 simp only[fill,Act.put,zsa,zsc,zsz];obtain⟨⟨W1,_,p1,v2,hrd⟩,⟨_,_,_,v1,_⟩⟩:=hkn;have hC9:Keeps W6 W9 [r]:=hW;have ST9:=zh (ST6.out.read hC9 (show Rd W9 base r V5 from(p1.a ⟨3, [], []⟩ (by simp) (.inl rfl)).2 hrd));rw[v1,v2];clear p1 hrd hC9 hW v1 v2 MI LH;have f9:=ST9.out.g.frozen 9;have g9:=ST9.out.g.cell 9;simp only[zga,zgz,zgs]at g9;have f7:=ST9.out.g.frozen 7;have g7:=ST9.out.g.cell 7;simp only[zga,zgz,zgs]at g7;have HD5:=zh (show X=(rdIf hw V5).bind fun wt=>(rdIf hw wt.2).bind fun wb=>(rdIf hu wb.2).bind fun u=>(rdIf hp u.2).bind fun pw=>if CV=f then some (pkCm f kp c wt.1 wb.1 u.1 pw.1,pw.2)else none by rw[HD3.out,E1.out,Option.bind_some];simp only;rw[E2.out,Option.bind_some,HD4.out])
 go_upto_region 6 with fail
 obtain⟨W7,hW7⟩:∃W7,(W9.setCell ⟨W0.heap.size,9,none⟩ (.int .i64 (kp:Nat))).setCell ⟨W0.heap.size,7,none⟩ (.string ⟨c.toArray⟩)=W7:=⟨_,rfl⟩;have ST7:=zh (show CnSt w W7 base r w.heap.size W0.heap.size (zP 0 false false 0 [] [] 0 c cl (kp:Nat) hw [] [] (Q:Nat) wr hu hp [] [] false 0 (.slice none 0 0) (.slice none 0 0) (.slice none 0 0)) V5 by rw[←hW7];exact(ST9.out.put 9 _).put 7 _);rw[hW7];clear hW7 ST6 ST9 HRD HD3 HD4 f9 g9 f7 g7 E1 E2 lE1 lE2;have HKP:=zh (show kp=kp from rfl);clear HKP
 cases hw with
 | true=>
  have x10:=ST7.out.g.cell 10;simp only[zga,zgz,zgs]at x10
  go_upto_region 7 with fail
  clear x10;have HRD:=zh ST7.out.rd;have MI:=fun(W:World) (hC:rdC r W7 W)=>(ST7.out.b.keep (show Keeps W7 W [r]from hC) (by have:=ST7.out.o;simp;omega)).cell 0
  simp only[zga,zgz]at MI
  rcases hF1:rdTx V5 with _ | ⟨wt,V6⟩
  ·skip
   have HNO:=zh (show X=none by rw[HD5.out,rdIf_yes,hF1];rfl);have F1:=zh hF1;clear hF1;have LH:LightK [⟨1, [], []⟩] (rdC r) (rdA base r V5 (rdL2 V5 V5)):=rdLight;refine wp_region_writersD [⟨1, [], []⟩] (rdC r) (rdA base r V5 (rdL2 V5 V5)) _ 1 [] _ rfl LH (by kernel_rfl) rfl (by kernel_rfl) ?_;apply loosed_is 0 _ rfl (by decide)
   ·intro W vals hW hkn
    have hC:=hW.c;simp only[knowsK]at hkn
    try simp only[and_true]at hkn
    clear hkn;have m:=MI W hC;refine⟨?_⟩;simp only[fill];go_simp
    first | exact⟨LH.stp (Keeps.refl _ _),rfl⟩ | exact⟨LH.stp (Keeps.alloc _ _),rfl⟩
   simp only[addEnt];refine loosed_dies rfl (fun W vals hW hkn=> ?_) ?_
   ·have hC:=hW.c
    simp only[knowsK]at hkn
    try simp only[and_true]at hkn
    have hr:Rd W base r V5:=(hW.a ⟨1, [], []⟩ (by simp) (.inl rfl)).1 HRD.out;clear hkn;simp only[fill,Act.put,zsa,zsc,zsz];refine⟨rfl,71, #[.agg #[.pointer (some ⟨r,0,none⟩)]],W,by go_simp, ?_⟩;refine(pvTxt_none hr F1.out).mono ?_;rintro e w9 ⟨hk9,rfl⟩;refine⟨_,rfl,fun a' hd' ht' => ?_⟩;obtain⟨t',d'⟩:=a';simp only at hd';subst hd';simp only[Exit.then];exact⟨rfl,(ST7.out.k.trans (show Keeps W7 _ [r]from hC) (fun _ hx _=>hx)).trans hk9 (fun _ hx _=>hx),by rw[HNO.out]⟩
   simp only[addEnt];apply loosed_is 2 _ rfl (by decide)
   ·intro W vals hW hkn
    have hC:=hW.c;simp only[knowsK]at hkn
    try simp only[and_true]at hkn
    clear hkn;have m:=MI W hC;refine⟨?_⟩;simp only[fill];go_simp
    first | exact⟨LH.stp (Keeps.refl _ _),rfl⟩ | exact⟨LH.stp (Keeps.alloc _ _),rfl⟩
   simp only[addEnt];refine loosed_skip 3 rfl (by decide) (by kernel_rfl) ?_;simp only[addEnt];refine loosed_skip 4 rfl (by decide) (by kernel_rfl) ?_;simp only[addEnt];refine loosed_skip 5 rfl (by decide) (by kernel_rfl) ?_;simp only[addEnt];refine loosed_skip 6 rfl (by decide) (by kernel_rfl) ?_;simp only[addEnt];refine loosed_skip 7 rfl (by decide) (by kernel_rfl) ?_;simp only[addEnt];refine loosed_skip 8 rfl (by decide) (by kernel_rfl) ?_;simp only[addEnt];refine loosed_skip 9 rfl (by decide) (by kernel_rfl) ?_;simp only[addEnt];exact loosed_nil
  have F1:=zh hF1;have lF1:V6.length < V5.length:=by
   have:=(rdTx_sound hF1).2.2;omega
  clear hF1
  rcases hF2:rdTx V6 with _ | ⟨wb,V7⟩
  ·skip
   have HNO:=zh (show X=none by rw[HD5.out,rdIf_yes,F1.out,Option.bind_some];simp only;rw[rdIf_yes,hF2];rfl);have F2:=zh hF2;clear hF2;have LH:LightK [⟨1, [], []⟩,⟨3, [], []⟩] (rdC r) (rdA base r V6 (rdL2 V5 V6)):=rdLight;refine wp_region_writersD [⟨1, [], []⟩,⟨3, [], []⟩] (rdC r) (rdA base r V6 (rdL2 V5 V6)) _ 3 [52] _ rfl LH (by kernel_rfl) rfl (by kernel_rfl) ?_;apply loosed_is 0 _ rfl (by decide)
   ·intro W vals hW hkn
    have hC:=hW.c;simp only[knowsK]at hkn
    try simp only[and_true]at hkn
    clear hkn;have m:=MI W hC;refine⟨?_⟩;simp only[fill];go_simp
    first | exact⟨LH.stp (Keeps.refl _ _),rfl⟩ | exact⟨LH.stp (Keeps.alloc _ _),rfl⟩
   simp only[addEnt];refine loosed_had 1 [] (fun _ v W' =>v= .string ⟨wt.toArray⟩∧Rd W' base r V6) rfl (by decide) (by kernel_rfl) (fun W vals hW hkn φ' hφ=> ?_) ?_
   ·have hC:=hW.c
    simp only[knowsK]at hkn
    try simp only[and_true]at hkn
    have hr:Rd W base r V5:=(hW.a ⟨1, [], []⟩ (by simp) (.inl rfl)).1 HRD.out;clear hkn;refine⟨?_⟩;simp only[fill];go_simp;exact loosek_writes LH hφ ((pvTxt_some hr F1.out).mono (by rintro e w9 ⟨h1,h2,h3⟩;exact⟨_,h2,rdStp hr h1 (by simp[rdL2] <;> omega) (by simp[rdL2] <;> omega),rfl,h3⟩))
   simp only[addEnt];apply loosed_is 2 _ rfl (by decide)
   ·intro W vals hW hkn
    have hC:=hW.c;simp only[knowsK]at hkn
    try simp only[and_true]at hkn
    clear hkn;have m:=MI W hC;refine⟨?_⟩;simp only[fill];go_simp
    first | exact⟨LH.stp (Keeps.refl _ _),rfl⟩ | exact⟨LH.stp (Keeps.alloc _ _),rfl⟩
   simp only[addEnt];refine loosed_dies rfl (fun W vals hW hkn=> ?_) ?_
   ·have hC:=hW.c
    simp only[knowsK]at hkn
    try simp only[and_true]at hkn
    obtain⟨W1,h0,h1,_,hrd⟩:=hkn (by decide);have hr:Rd W base r V6:=(h1.a ⟨3, [], []⟩ (by simp) (.inr (.inr (.inl rfl)))).1 hrd;clear hkn;simp only[fill,Act.put,zsa,zsc,zsz];refine⟨rfl,71, #[.agg #[.pointer (some ⟨r,0,none⟩)]],W,by go_simp, ?_⟩;refine(pvTxt_none hr F2.out).mono ?_;rintro e w9 ⟨hk9,rfl⟩;refine⟨_,rfl,fun a' hd' ht' => ?_⟩;obtain⟨t',d'⟩:=a';simp only at hd';subst hd';simp only[Exit.then];exact⟨rfl,(ST7.out.k.trans (show Keeps W7 _ [r]from hC) (fun _ hx _=>hx)).trans hk9 (fun _ hx _=>hx),by rw[HNO.out]⟩
   simp only[addEnt];apply loosed_is 4 _ rfl (by decide)
   ·intro W vals hW hkn
    clear hkn;have hC:=hW.c;refine⟨?_⟩;simp only[fill];go_simp
    first | exact⟨LH.stp (Keeps.refl _ _),rfl⟩ | exact⟨LH.stp (Keeps.alloc _ _),rfl⟩
   simp only[addEnt];apply loosed_is 5 _ rfl (by decide)
   ·intro W vals hW hkn
    clear hkn;have hC:=hW.c;refine⟨?_⟩;simp only[fill];go_simp
    first | exact⟨LH.stp (Keeps.refl _ _),rfl⟩ | exact⟨LH.stp (Keeps.alloc _ _),rfl⟩
   simp only[addEnt];refine loosed_skip 6 rfl (by decide) (by kernel_rfl) ?_;simp only[addEnt];refine loosed_skip 7 rfl (by decide) (by kernel_rfl) ?_;simp only[addEnt];refine loosed_skip 8 rfl (by decide) (by kernel_rfl) ?_;simp only[addEnt];refine loosed_skip 9 rfl (by decide) (by kernel_rfl) ?_;simp only[addEnt];exact loosed_nil
  have F2:=zh hF2;have lF2:V7.length < V6.length:=by
   have:=(rdTx_sound hF2).2.2;omega
  clear hF2;have LH:LightK [⟨1, [], []⟩,⟨3, [], []⟩] (rdC r) (rdA base r V7 (rdL2 V5 V6)):=rdLight;refine wp_region_writersL [⟨1, [], []⟩,⟨3, [], []⟩] (rdC r) (rdA base r V7 (rdL2 V5 V6)) _ 6 LH (by kernel_rfl) rfl (by kernel_rfl) ?_;simp only[zts,ztz,zds,zdz];apply loosek_is 0 _ rfl
  ·intro W vals hW hkn
   have hC:=hW.c;simp only[knowsK]at hkn
   try simp only[and_true]at hkn
   clear hkn;have m:=MI W hC;refine⟨?_⟩;simp only[fill];go_simp
   first | exact⟨LH.stp (Keeps.refl _ _),rfl⟩ | exact⟨LH.stp (Keeps.alloc _ _),rfl⟩
  simp only[addEnt];refine loosek_had 1 [] (fun _ v W' =>v= .string ⟨wt.toArray⟩∧Rd W' base r V6) rfl (by kernel_rfl) (fun W vals hW hkn φ' hφ=> ?_) ?_
  ·have hC:=hW.c
   simp only[knowsK]at hkn
   try simp only[and_true]at hkn
   have hr:Rd W base r V5:=(hW.a ⟨1, [], []⟩ (by simp) (.inl rfl)).1 HRD.out;clear hkn;refine⟨?_⟩;simp only[fill];go_simp;exact loosek_writes LH hφ ((pvTxt_some hr F1.out).mono (by rintro e w9 ⟨h1,h2,h3⟩;exact⟨_,h2,rdStp hr h1 (by simp[rdL2] <;> omega) (by simp[rdL2] <;> omega),rfl,h3⟩))
  simp only[addEnt];apply loosek_is 2 _ rfl
  ·intro W vals hW hkn
   have hC:=hW.c;simp only[knowsK]at hkn
   try simp only[and_true]at hkn
   clear hkn;have m:=MI W hC;refine⟨?_⟩;simp only[fill];go_simp
   first | exact⟨LH.stp (Keeps.refl _ _),rfl⟩ | exact⟨LH.stp (Keeps.alloc _ _),rfl⟩
  simp only[addEnt];refine loosek_had 3 [52] (fun _ v W' =>v= .string ⟨wb.toArray⟩∧Rd W' base r V7) rfl (by kernel_rfl) (fun W vals hW hkn φ' hφ=> ?_) ?_
  ·have hC:=hW.c
   simp only[knowsK]at hkn
   try simp only[and_true]at hkn
   obtain⟨W1,h0,h1,_,hrd⟩:=hkn (by decide);have hr:Rd W base r V6:=(h1.a ⟨3, [], []⟩ (by simp) (.inr (.inr (.inl rfl)))).1 hrd;clear hkn;refine⟨?_⟩;simp only[fill];go_simp;exact loosek_writes LH hφ ((pvTxt_some hr F2.out).mono (by rintro e w9 ⟨h1,h2,h3⟩;exact⟨_,h2,rdStp hr h1 (by simp[rdL2] <;> omega) (by simp[rdL2] <;> omega),rfl,h3⟩))
  simp only[addEnt];apply loosek_is 4 _ rfl
  ·intro W vals hW hkn
   clear hkn;have hC:=hW.c;refine⟨?_⟩;simp only[fill];go_simp
   first | exact⟨LH.stp (Keeps.refl _ _),rfl⟩ | exact⟨LH.stp (Keeps.alloc _ _),rfl⟩
  simp only[addEnt];apply loosek_is 5 _ rfl
  ·intro W vals hW hkn
   clear hkn;have hC:=hW.c;refine⟨?_⟩;simp only[fill];go_simp
   first | exact⟨LH.stp (Keeps.refl _ _),rfl⟩ | exact⟨LH.stp (Keeps.alloc _ _),rfl⟩
  simp only[addEnt];refine loosek_nil (fun W9 vals hW hkn=> ?_);simp only[knowsAllK]at hkn
  try simp only[and_true]at hkn
  simp only[fill,Act.put,zsa,zsc,zsz];obtain⟨⟨W1,_,p1,v2,hrd⟩,⟨_,_,_,v1,_⟩⟩:=hkn;have hC9:Keeps W7 W9 [r]:=hW;have ST9:=zh (ST7.out.read hC9 (show Rd W9 base r V7 from(p1.a ⟨3, [], []⟩ (by simp) (.inl rfl)).2 hrd));rw[v1,v2];clear p1 hrd hC9 hW v1 v2 MI LH;have f11:=ST9.out.g.frozen 11;have g11:=ST9.out.g.cell 11;simp only[zga,zgz,zgs]at g11;have f12:=ST9.out.g.frozen 12;have g12:=ST9.out.g.cell 12;simp only[zga,zgz,zgs]at g12;have HD6:=zh (show X=(rdIf hu V7).bind fun u=>(rdIf hp u.2).bind fun pw=>if CV=f then some (pkCm f kp c wt wb u.1 pw.1,pw.2)else none by rw[HD5.out,rdIf_yes,F1.out,Option.bind_some];simp only;rw[rdIf_yes,F2.out,Option.bind_some])
  go_upto_region 8 with fail
  obtain⟨W8,hW8⟩:∃W8,(W9.setCell ⟨W0.heap.size,11,none⟩ (.string ⟨wt.toArray⟩)).setCell ⟨W0.heap.size,12,none⟩ (.string ⟨wb.toArray⟩)=W8:=⟨_,rfl⟩;have ST8:=zh (show CnSt w W8 base r w.heap.size W0.heap.size (zP 0 false false 0 [] [] 0 c cl (kp:Nat) true wt wb (Q:Nat) wr hu hp [] [] false 0 (.slice none 0 0) (.slice none 0 0) (.slice none 0 0)) V7 by rw[←hW8];exact(ST9.out.put 11 _).put 12 _);rw[hW8];clear hW8 ST7 ST9 HRD HD5 f11 g11 f12 g12 F1 F2 lF1 lF2
  cases hu with
  | true=>
   have x15:=ST8.out.g.cell 15;simp only[zga,zgz,zgs]at x15
   go_upto_region 9 with fail
   clear x15
   rcases hEU:rdTx V7 with _ | ⟨u,V8⟩
   ·skip
    have HT:=zh (show X=none by rw[HD6.out,rdIf_yes,hEU];rfl);have HE:=zh hEU;have c0:=ST8.out.b.cell 0;simp only[zga,zgz]at c0;clear hEU
    go_wp2_with fail
    refine(pvTxt_none ST8.out.rd HE.out).mono ?_;rintro e w3 ⟨hk,rfl⟩;exact⟨rfl,ST8.out.k.trans hk (fun _ hx _=>hx),by rw[HT.out]⟩
   have HD6b:=zh (HD6.out.trans (show _=(rdIf hp V8).bind fun pw=>if CV=f then some (pkCm f kp c wt wb u pw.1,pw.2)else none by rw[rdIf_yes,hEU];rfl));have EU:=zh hEU;have c0:=ST8.out.b.cell 0;simp only[zga,zgz]at c0;clear hEU
   go_wp2_with fail
   refine(pvTxt_some ST8.out.rd EU.out).mono ?_;rintro e w11 ⟨hk,rfl,hrd⟩;unfold strV;have STr:=zh (ST8.out.read hk hrd);clear hk hrd c0;have f17:=STr.out.g.frozen 17;have g17:=STr.out.g.cell 17;simp only[zga,zgz,zgs]at g17
   go_upto_region 10 with fail
   obtain⟨W11,hW11⟩:∃W11,w11.setCell ⟨W0.heap.size,17,none⟩ (.string ⟨u.toArray⟩)=W11:=⟨_,rfl⟩;have ST11:=zh (show CnSt w W11 base r w.heap.size W0.heap.size (zP 0 false false 0 [] [] 0 c cl (kp:Nat) true wt wb (Q:Nat) wr true hp u [] false 0 (.slice none 0 0) (.slice none 0 0) (.slice none 0 0)) V8 by rw[←hW11];exact STr.out.put 17 _);rw[hW11];clear hW11 f17 g17 STr
   cases hp with
   | true=>
    have x16:=ST11.out.g.cell 16;simp only[zga,zgz,zgs]at x16
    go_upto_region 11 with fail
    clear x16
    rcases hEP:rdTx V8 with _ | ⟨pw,V9⟩
    ·skip
     have HT:=zh (show X=none by rw[HD6b.out,rdIf_yes,hEP];rfl);have HE:=zh hEP;have c0:=ST11.out.b.cell 0;simp only[zga,zgz]at c0;clear hEP
     go_wp2_with fail
     refine(pvTxt_none ST11.out.rd HE.out).mono ?_;rintro e w3 ⟨hk,rfl⟩;exact⟨rfl,ST11.out.k.trans hk (fun _ hx _=>hx),by rw[HT.out]⟩
    have HD6bb:=zh (HD6b.out.trans (show _=if CV=f then some (pkCm f kp c wt wb u pw,V9)else none by rw[rdIf_yes,hEP];rfl));have EP:=zh hEP;have c0:=ST11.out.b.cell 0;simp only[zga,zgz]at c0;clear hEP
    go_wp2_with fail
    refine(pvTxt_some ST11.out.rd EP.out).mono ?_;rintro e w12 ⟨hk,rfl,hrd⟩;unfold strV;have STr:=zh (ST11.out.read hk hrd);clear hk hrd c0;have f18:=STr.out.g.frozen 18;have g18:=STr.out.g.cell 18;simp only[zga,zgz,zgs]at g18
    go_upto_region 12 with fail
    obtain⟨W12,hW12⟩:∃W12,w12.setCell ⟨W0.heap.size,18,none⟩ (.string ⟨pw.toArray⟩)=W12:=⟨_,rfl⟩;have ST12:=zh (show CnSt w W12 base r w.heap.size W0.heap.size (zP 0 false false 0 [] [] 0 c cl (kp:Nat) true wt wb (Q:Nat) wr true true u pw false 0 (.slice none 0 0) (.slice none 0 0) (.slice none 0 0)) V9 by rw[←hW12];exact STr.out.put 18 _);rw[hW12];clear hW12 f18 g18 STr
    by_cases hcv:CV=f
    ·skip
     have HT:=zh (show X=some (pkCm f kp c wt wb u pw,V9)by rw[HD6bb.out,if_pos hcv]);have hcb:((f:Int)==(CV:Nat))=true:=by simp;omega
     have CC:=zh (fun W=>pkConnects_any ⟨0,false,false,0, [], [],0,c,cl,(kp:Nat),true,wt,wb,(Q:Nat),wr,true,true,u,pw,false,0, [], [], []⟩ (.slice none 0 0) (.slice none 0 0) (.slice none 0 0) W (by have:=HQ4.out;simp only;omega));simp only[HCV.out]at CC;clear hcv
     go_upto_region 12 with fail
     refine wp_region_line KeepsAll _ 4 rfl (by kernel_rfl) (by kernel_rfl) (fun _=>Keeps.refl _ _) (fun _ _ _ h k=>h.trans k (by simp)) ?_;simp only[zts,ztz,zds,zdz];refine lq (.int .i64 (f:Nat)) ?_;refine lw 29 (.tmp 4) (W0.heap.size) ((zL 0 false false 0 [] [] 0 c cl (kp:Nat) true wt wb (Q:Nat) wr true true u pw false 0 (.slice none 0 0) (.slice none 0 0) (.slice none 0 0))) Tryz.underlying29 (fun W hW=>range_row (ST12.out.g.keeps hW)) ?_;refine loose_qc 130 (#[.agg (zP 0 false false 0 [] [] 0 c cl (kp:Nat) true wt wb (Q:Nat) wr true true u pw false 0 (.slice none 0 0) (.slice none 0 0) (.slice none 0 0))]) (.int .i64 (CV:Nat)) (fun _=>by kernel_rfl) (fun _ _=>by kernel_rfl) (fun W hW=>CC.out W) ?_;refine loose_q (.bool true) (fun _=>by kernel_rfl) (fun W _=>(show _=Result.ok (Next.value (.bool ((f:Int)==(CV:Nat)))) W by kernel_rfl).trans (by rw[hcb])) ?_;refine loose_nil (fun W vals hW hkn=> ?_);simp only[addEnt,knowsAll]at hkn
     try simp only[and_true]at hkn
     simp only[addEnt,fill,Act.put,zsa,zsc,zsz];clear hkn;have STe:=zh (ST12.out.keeps hW);clear hW
     go_wp2_with (go_at_call 30;refine(pvMust_yes _).mono ?_;rintro e w' ⟨rfl,rfl⟩;refine Hid.out ?_)
     refine zh ?_
     go_upto_region 13 with fail
     refine wp_region_line KeepsAll _ 1 rfl (by kernel_rfl) (by kernel_rfl) (fun _=>Keeps.refl _ _) (fun _ _ _ h k=>h.trans k (by simp)) ?_;simp only[zts,ztz,zds,zdz];refine lw 29 (.tmp 4) (W0.heap.size) ((zL 0 false false 0 [] [] 0 c cl (kp:Nat) true wt wb (Q:Nat) wr true true u pw false 0 (.slice none 0 0) (.slice none 0 0) (.slice none 0 0))) Tryz.underlying29 (fun W hW=>range_row (STe.out.g.keeps hW)) ?_;refine loose_nil (fun W vals hW hkn=> ?_);simp only[addEnt,knowsAll]at hkn
     try simp only[and_true]at hkn
     simp only[addEnt,fill,Act.put,zsa,zsc,zsz];clear hkn;have STz:=zh (STe.out.keeps hW);clear hW;refine wpList_store_row rfl (.tmp 4) (.tmp 74) 29 rfl W0.heap.size (zP 0 false false 0 [] [] 0 c cl (kp:Nat) true wt wb (Q:Nat) wr true true u pw false 0 (.slice none 0 0) (.slice none 0 0) (.slice none 0 0)) (zP 0 false false 0 [] [] 0 c cl (kp:Nat) true wt wb (Q:Nat) wr true true u pw false 0 (.slice none 0 0) (.slice none 0 0) (.slice none 0 0)) STz.out.g (by kernel_rfl) rfl (by simp[Value.oneCell']) rfl rfl ?_;intro w7 r7 k7;have HR7:=zh r7;have HRD7:=zh (STz.out.rd.far k7 (fun x hx=>by have:=STz.out.o;simp at hx;omega));have HK7:=zh (STz.out.k.trans k7 (fun x hx hlt=>by have:=STz.out.o;simp at hx;omega));clear r7 k7
     go_wp2_with fail
     obtain⟨d,hu9,hd9⟩:=undPack;refine bodyPost_ret (results_row (s:=4) (cs:=(zL 0 false false 0 [] [] 0 c cl (kp:Nat) true wt wb (Q:Nat) wr true true u pw false 0 (.slice none 0 0) (.slice none 0 0) (.slice none 0 0))) rfl rfl (range_row HR7.out) hu9 hd9 (by kernel_rfl)) rfl ⟨HK7.out, ?_⟩;rw[HT.out,HCm.out];exact⟨_,_,_,rfl,PkT.empty rfl rfl rfl,HRD7.out⟩
    ·skip
     have HT:=zh (show X=none by rw[HD6bb.out,if_neg hcv]);have hcb:((f:Int)==(CV:Nat))=false:=by simp;omega
     have CC:=zh (fun W=>pkConnects_any ⟨0,false,false,0, [], [],0,c,cl,(kp:Nat),true,wt,wb,(Q:Nat),wr,true,true,u,pw,false,0, [], [], []⟩ (.slice none 0 0) (.slice none 0 0) (.slice none 0 0) W (by have:=HQ4.out;simp only;omega));simp only[HCV.out]at CC;clear hcv
     go_upto_region 12 with fail
     refine wp_region_line KeepsAll _ 4 rfl (by kernel_rfl) (by kernel_rfl) (fun _=>Keeps.refl _ _) (fun _ _ _ h k=>h.trans k (by simp)) ?_;simp only[zts,ztz,zds,zdz];refine lq (.int .i64 (f:Nat)) ?_;refine lw 29 (.tmp 4) (W0.heap.size) ((zL 0 false false 0 [] [] 0 c cl (kp:Nat) true wt wb (Q:Nat) wr true true u pw false 0 (.slice none 0 0) (.slice none 0 0) (.slice none 0 0))) Tryz.underlying29 (fun W hW=>range_row (ST12.out.g.keeps hW)) ?_;refine loose_qc 130 (#[.agg (zP 0 false false 0 [] [] 0 c cl (kp:Nat) true wt wb (Q:Nat) wr true true u pw false 0 (.slice none 0 0) (.slice none 0 0) (.slice none 0 0))]) (.int .i64 (CV:Nat)) (fun _=>by kernel_rfl) (fun _ _=>by kernel_rfl) (fun W hW=>CC.out W) ?_;refine loose_q (.bool false) (fun _=>by kernel_rfl) (fun W _=>(show _=Result.ok (Next.value (.bool ((f:Int)==(CV:Nat)))) W by kernel_rfl).trans (by rw[hcb])) ?_;refine loose_nil (fun W vals hW hkn=> ?_);simp only[addEnt,knowsAll]at hkn
     try simp only[and_true]at hkn
     simp only[addEnt,fill,Act.put,zsa,zsc,zsz];clear hkn;have STe:=zh (ST12.out.keeps hW);clear hW
     go_wp2_with (go_at_call 30;refine(pvMust_no _).mono ?_;rintro e w' ⟨rfl,rfl⟩)
     exact⟨rfl,STe.out.k,by rw[HT.out]⟩
   | false=>
    have HD6bc:=zh (HD6b.out.trans (show _=if CV=f then some (pkCm f kp c wt wb u [],V8)else none by rw[rdIf_no];rfl));have x16:=ST11.out.g.cell 16;simp only[zga,zgz,zgs]at x16
    go_upto_region 12 with fail
    clear x16
    by_cases hcv:CV=f
    ·skip
     have HT:=zh (show X=some (pkCm f kp c wt wb u [],V8)by rw[HD6bc.out,if_pos hcv]);have hcb:((f:Int)==(CV:Nat))=true:=by simp;omega
     have CC:=zh (fun W=>pkConnects_any ⟨0,false,false,0, [], [],0,c,cl,(kp:Nat),true,wt,wb,(Q:Nat),wr,true,false,u, [],false,0, [], [], []⟩ (.slice none 0 0) (.slice none 0 0) (.slice none 0 0) W (by have:=HQ4.out;simp only;omega));simp only[HCV.out]at CC;clear hcv
     go_upto_region 12 with fail
     refine wp_region_line KeepsAll _ 4 rfl (by kernel_rfl) (by kernel_rfl) (fun _=>Keeps.refl _ _) (fun _ _ _ h k=>h.trans k (by simp)) ?_;simp only[zts,ztz,zds,zdz];refine lq (.int .i64 (f:Nat)) ?_;refine lw 29 (.tmp 4) (W0.heap.size) ((zL 0 false false 0 [] [] 0 c cl (kp:Nat) true wt wb (Q:Nat) wr true false u [] false 0 (.slice none 0 0) (.slice none 0 0) (.slice none 0 0))) Tryz.underlying29 (fun W hW=>range_row (ST11.out.g.keeps hW)) ?_;refine loose_qc 130 (#[.agg (zP 0 false false 0 [] [] 0 c cl (kp:Nat) true wt wb (Q:Nat) wr true false u [] false 0 (.slice none 0 0) (.slice none 0 0) (.slice none 0 0))]) (.int .i64 (CV:Nat)) (fun _=>by kernel_rfl) (fun _ _=>by kernel_rfl) (fun W hW=>CC.out W) ?_;refine loose_q (.bool true) (fun _=>by kernel_rfl) (fun W _=>(show _=Result.ok (Next.value (.bool ((f:Int)==(CV:Nat)))) W by kernel_rfl).trans (by rw[hcb])) ?_;refine loose_nil (fun W vals hW hkn=> ?_);simp only[addEnt,knowsAll]at hkn
     try simp only[and_true]at hkn
     simp only[addEnt,fill,Act.put,zsa,zsc,zsz];clear hkn;have STe:=zh (ST11.out.keeps hW);clear hW
     go_wp2_with (go_at_call 30;refine(pvMust_yes _).mono ?_;rintro e w' ⟨rfl,rfl⟩;refine Hid.out ?_)
     refine zh ?_
     go_upto_region 13 with fail
     refine wp_region_line KeepsAll _ 1 rfl (by kernel_rfl) (by kernel_rfl) (fun _=>Keeps.refl _ _) (fun _ _ _ h k=>h.trans k (by simp)) ?_;simp only[zts,ztz,zds,zdz];refine lw 29 (.tmp 4) (W0.heap.size) ((zL 0 false false 0 [] [] 0 c cl (kp:Nat) true wt wb (Q:Nat) wr true false u [] false 0 (.slice none 0 0) (.slice none 0 0) (.slice none 0 0))) Tryz.underlying29 (fun W hW=>range_row (STe.out.g.keeps hW)) ?_;refine loose_nil (fun W vals hW hkn=> ?_);simp only[addEnt,knowsAll]at hkn
     try simp only[and_true]at hkn
     simp only[addEnt,fill,Act.put,zsa,zsc,zsz];clear hkn;have STz:=zh (STe.out.keeps hW);clear hW;refine wpList_store_row rfl (.tmp 4) (.tmp 74) 29 rfl W0.heap.size (zP 0 false false 0 [] [] 0 c cl (kp:Nat) true wt wb (Q:Nat) wr true false u [] false 0 (.slice none 0 0) (.slice none 0 0) (.slice none 0 0)) (zP 0 false false 0 [] [] 0 c cl (kp:Nat) true wt wb (Q:Nat) wr true false u [] false 0 (.slice none 0 0) (.slice none 0 0) (.slice none 0 0)) STz.out.g (by kernel_rfl) rfl (by simp[Value.oneCell']) rfl rfl ?_;intro w7 r7 k7;have HR7:=zh r7;have HRD7:=zh (STz.out.rd.far k7 (fun x hx=>by have:=STz.out.o;simp at hx;omega));have HK7:=zh (STz.out.k.trans k7 (fun x hx hlt=>by have:=STz.out.o;simp at hx;omega));clear r7 k7
     go_wp2_with fail
     obtain⟨d,hu9,hd9⟩:=undPack;refine bodyPost_ret (results_row (s:=4) (cs:=(zL 0 false false 0 [] [] 0 c cl (kp:Nat) true wt wb (Q:Nat) wr true false u [] false 0 (.slice none 0 0) (.slice none 0 0) (.slice none 0 0))) rfl rfl (range_row HR7.out) hu9 hd9 (by kernel_rfl)) rfl ⟨HK7.out, ?_⟩;rw[HT.out,HCm.out];exact⟨_,_,_,rfl,PkT.empty rfl rfl rfl,HRD7.out⟩
    ·skip
     have HT:=zh (show X=none by rw[HD6bc.out,if_neg hcv]);have hcb:((f:Int)==(CV:Nat))=false:=by simp;omega
     have CC:=zh (fun W=>pkConnects_any ⟨0,false,false,0, [], [],0,c,cl,(kp:Nat),true,wt,wb,(Q:Nat),wr,true,false,u, [],false,0, [], [], []⟩ (.slice none 0 0) (.slice none 0 0) (.slice none 0 0) W (by have:=HQ4.out;simp only;omega));simp only[HCV.out]at CC;clear hcv
     go_upto_region 12 with fail
     refine wp_region_line KeepsAll _ 4 rfl (by kernel_rfl) (by kernel_rfl) (fun _=>Keeps.refl _ _) (fun _ _ _ h k=>h.trans k (by simp)) ?_;simp only[zts,ztz,zds,zdz];refine lq (.int .i64 (f:Nat)) ?_;refine lw 29 (.tmp 4) (W0.heap.size) ((zL 0 false false 0 [] [] 0 c cl (kp:Nat) true wt wb (Q:Nat) wr true false u [] false 0 (.slice none 0 0) (.slice none 0 0) (.slice none 0 0))) Tryz.underlying29 (fun W hW=>range_row (ST11.out.g.keeps hW)) ?_;refine loose_qc 130 (#[.agg (zP 0 false false 0 [] [] 0 c cl (kp:Nat) true wt wb (Q:Nat) wr true false u [] false 0 (.slice none 0 0) (.slice none 0 0) (.slice none 0 0))]) (.int .i64 (CV:Nat)) (fun _=>by kernel_rfl) (fun _ _=>by kernel_rfl) (fun W hW=>CC.out W) ?_;refine loose_q (.bool false) (fun _=>by kernel_rfl) (fun W _=>(show _=Result.ok (Next.value (.bool ((f:Int)==(CV:Nat)))) W by kernel_rfl).trans (by rw[hcb])) ?_;refine loose_nil (fun W vals hW hkn=> ?_);simp only[addEnt,knowsAll]at hkn
     try simp only[and_true]at hkn
     simp only[addEnt,fill,Act.put,zsa,zsc,zsz];clear hkn;have STe:=zh (ST11.out.keeps hW);clear hW
     go_wp2_with (go_at_call 30;refine(pvMust_no _).mono ?_;rintro e w' ⟨rfl,rfl⟩)
     exact⟨rfl,STe.out.k,by rw[HT.out]⟩
  | false=>
   have HD6c:=zh (HD6.out.trans (show _=(rdIf hp V7).bind fun pw=>if CV=f then some (pkCm f kp c wt wb [] pw.1,pw.2)else none by rw[rdIf_no];rfl));have x15:=ST8.out.g.cell 15;simp only[zga,zgz,zgs]at x15
   go_upto_region 10 with fail
   clear x15
   cases hp with
   | true=>
    have x16:=ST8.out.g.cell 16;simp only[zga,zgz,zgs]at x16
    go_upto_region 11 with fail
    clear x16
    rcases hEP:rdTx V7 with _ | ⟨pw,V9⟩
    ·skip
     have HT:=zh (show X=none by rw[HD6c.out,rdIf_yes,hEP];rfl);have HE:=zh hEP;have c0:=ST8.out.b.cell 0;simp only[zga,zgz]at c0;clear hEP
     go_wp2_with fail
     refine(pvTxt_none ST8.out.rd HE.out).mono ?_;rintro e w3 ⟨hk,rfl⟩;exact⟨rfl,ST8.out.k.trans hk (fun _ hx _=>hx),by rw[HT.out]⟩
    have HD6cb:=zh (HD6c.out.trans (show _=if CV=f then some (pkCm f kp c wt wb [] pw,V9)else none by rw[rdIf_yes,hEP];rfl));have EP:=zh hEP;have c0:=ST8.out.b.cell 0;simp only[zga,zgz]at c0;clear hEP
    go_wp2_with fail
    refine(pvTxt_some ST8.out.rd EP.out).mono ?_;rintro e w12 ⟨hk,rfl,hrd⟩;unfold strV;have STr:=zh (ST8.out.read hk hrd);clear hk hrd c0;have f18:=STr.out.g.frozen 18;have g18:=STr.out.g.cell 18;simp only[zga,zgz,zgs]at g18
    go_upto_region 12 with fail
    obtain⟨W12,hW12⟩:∃W12,w12.setCell ⟨W0.heap.size,18,none⟩ (.string ⟨pw.toArray⟩)=W12:=⟨_,rfl⟩;have ST12:=zh (show CnSt w W12 base r w.heap.size W0.heap.size (zP 0 false false 0 [] [] 0 c cl (kp:Nat) true wt wb (Q:Nat) wr false true [] pw false 0 (.slice none 0 0) (.slice none 0 0) (.slice none 0 0)) V9 by rw[←hW12];exact STr.out.put 18 _);rw[hW12];clear hW12 f18 g18 STr
    by_cases hcv:CV=f
    ·skip
     have HT:=zh (show X=some (pkCm f kp c wt wb [] pw,V9)by rw[HD6cb.out,if_pos hcv]);have hcb:((f:Int)==(CV:Nat))=true:=by simp;omega
     have CC:=zh (fun W=>pkConnects_any ⟨0,false,false,0, [], [],0,c,cl,(kp:Nat),true,wt,wb,(Q:Nat),wr,false,true, [],pw,false,0, [], [], []⟩ (.slice none 0 0) (.slice none 0 0) (.slice none 0 0) W (by have:=HQ4.out;simp only;omega));simp only[HCV.out]at CC;clear hcv
     go_upto_region 12 with fail
     refine wp_region_line KeepsAll _ 4 rfl (by kernel_rfl) (by kernel_rfl) (fun _=>Keeps.refl _ _) (fun _ _ _ h k=>h.trans k (by simp)) ?_;simp only[zts,ztz,zds,zdz];refine lq (.int .i64 (f:Nat)) ?_;refine lw 29 (.tmp 4) (W0.heap.size) ((zL 0 false false 0 [] [] 0 c cl (kp:Nat) true wt wb (Q:Nat) wr false true [] pw false 0 (.slice none 0 0) (.slice none 0 0) (.slice none 0 0))) Tryz.underlying29 (fun W hW=>range_row (ST12.out.g.keeps hW)) ?_;refine loose_qc 130 (#[.agg (zP 0 false false 0 [] [] 0 c cl (kp:Nat) true wt wb (Q:Nat) wr false true [] pw false 0 (.slice none 0 0) (.slice none 0 0) (.slice none 0 0))]) (.int .i64 (CV:Nat)) (fun _=>by kernel_rfl) (fun _ _=>by kernel_rfl) (fun W hW=>CC.out W) ?_;refine loose_q (.bool true) (fun _=>by kernel_rfl) (fun W _=>(show _=Result.ok (Next.value (.bool ((f:Int)==(CV:Nat)))) W by kernel_rfl).trans (by rw[hcb])) ?_;refine loose_nil (fun W vals hW hkn=> ?_);simp only[addEnt,knowsAll]at hkn
     try simp only[and_true]at hkn
     simp only[addEnt,fill,Act.put,zsa,zsc,zsz];clear hkn;have STe:=zh (ST12.out.keeps hW);clear hW
     go_wp2_with (go_at_call 30;refine(pvMust_yes _).mono ?_;rintro e w' ⟨rfl,rfl⟩;refine Hid.out ?_)
     refine zh ?_
     go_upto_region 13 with fail
     refine wp_region_line KeepsAll _ 1 rfl (by kernel_rfl) (by kernel_rfl) (fun _=>Keeps.refl _ _) (fun _ _ _ h k=>h.trans k (by simp)) ?_;simp only[zts,ztz,zds,zdz];refine lw 29 (.tmp 4) (W0.heap.size) ((zL 0 false false 0 [] [] 0 c cl (kp:Nat) true wt wb (Q:Nat) wr false true [] pw false 0 (.slice none 0 0) (.slice none 0 0) (.slice none 0 0))) Tryz.underlying29 (fun W hW=>range_row (STe.out.g.keeps hW)) ?_;refine loose_nil (fun W vals hW hkn=> ?_);simp only[addEnt,knowsAll]at hkn
     try simp only[and_true]at hkn
     simp only[addEnt,fill,Act.put,zsa,zsc,zsz];clear hkn;have STz:=zh (STe.out.keeps hW);clear hW;refine wpList_store_row rfl (.tmp 4) (.tmp 74) 29 rfl W0.heap.size (zP 0 false false 0 [] [] 0 c cl (kp:Nat) true wt wb (Q:Nat) wr false true [] pw false 0 (.slice none 0 0) (.slice none 0 0) (.slice none 0 0)) (zP 0 false false 0 [] [] 0 c cl (kp:Nat) true wt wb (Q:Nat) wr false true [] pw false 0 (.slice none 0 0) (.slice none 0 0) (.slice none 0 0)) STz.out.g (by kernel_rfl) rfl (by simp[Value.oneCell']) rfl rfl ?_;intro w7 r7 k7;have HR7:=zh r7;have HRD7:=zh (STz.out.rd.far k7 (fun x hx=>by have:=STz.out.o;simp at hx;omega));have HK7:=zh (STz.out.k.trans k7 (fun x hx hlt=>by have:=STz.out.o;simp at hx;omega));clear r7 k7
     go_wp2_with fail
     obtain⟨d,hu9,hd9⟩:=undPack;refine bodyPost_ret (results_row (s:=4) (cs:=(zL 0 false false 0 [] [] 0 c cl (kp:Nat) true wt wb (Q:Nat) wr false true [] pw false 0 (.slice none 0 0) (.slice none 0 0) (.slice none 0 0))) rfl rfl (range_row HR7.out) hu9 hd9 (by kernel_rfl)) rfl ⟨HK7.out, ?_⟩;rw[HT.out,HCm.out];exact⟨_,_,_,rfl,PkT.empty rfl rfl rfl,HRD7.out⟩
    ·skip
     have HT:=zh (show X=none by rw[HD6cb.out,if_neg hcv]);have hcb:((f:Int)==(CV:Nat))=false:=by simp;omega
     have CC:=zh (fun W=>pkConnects_any ⟨0,false,false,0, [], [],0,c,cl,(kp:Nat),true,wt,wb,(Q:Nat),wr,false,true, [],pw,false,0, [], [], []⟩ (.slice none 0 0) (.slice none 0 0) (.slice none 0 0) W (by have:=HQ4.out;simp only;omega));simp only[HCV.out]at CC;clear hcv
     go_upto_region 12 with fail
     refine wp_region_line KeepsAll _ 4 rfl (by kernel_rfl) (by kernel_rfl) (fun _=>Keeps.refl _ _) (fun _ _ _ h k=>h.trans k (by simp)) ?_;simp only[zts,ztz,zds,zdz];refine lq (.int .i64 (f:Nat)) ?_;refine lw 29 (.tmp 4) (W0.heap.size) ((zL 0 false false 0 [] [] 0 c cl (kp:Nat) true wt wb (Q:Nat) wr false true [] pw false 0 (.slice none 0 0) (.slice none 0 0) (.slice none 0 0))) Tryz.underlying29 (fun W hW=>range_row (ST12.out.g.keeps hW)) ?_;refine loose_qc 130 (#[.agg (zP 0 false false 0 [] [] 0 c cl (kp:Nat) true wt wb (Q:Nat) wr false true [] pw false 0 (.slice none 0 0) (.slice none 0 0) (.slice none 0 0))]) (.int .i64 (CV:Nat)) (fun _=>by kernel_rfl) (fun _ _=>by kernel_rfl) (fun W hW=>CC.out W) ?_;refine loose_q (.bool false) (fun _=>by kernel_rfl) (fun W _=>(show _=Result.ok (Next.value (.bool ((f:Int)==(CV:Nat)))) W by kernel_rfl).trans (by rw[hcb])) ?_;refine loose_nil (fun W vals hW hkn=> ?_);simp only[addEnt,knowsAll]at hkn
     try simp only[and_true]at hkn
     simp only[addEnt,fill,Act.put,zsa,zsc,zsz];clear hkn;have STe:=zh (ST12.out.keeps hW);clear hW
     go_wp2_with (go_at_call 30;refine(pvMust_no _).mono ?_;rintro e w' ⟨rfl,rfl⟩)
     exact⟨rfl,STe.out.k,by rw[HT.out]⟩
   | false=>
    have HD6cc:=zh (HD6c.out.trans (show _=if CV=f then some (pkCm f kp c wt wb [] [],V7)else none by rw[rdIf_no];rfl));have x16:=ST8.out.g.cell 16;simp only[zga,zgz,zgs]at x16
    go_upto_region 12 with fail
    clear x16
    by_cases hcv:CV=f
    ·skip
     have HT:=zh (show X=some (pkCm f kp c wt wb [] [],V7)by rw[HD6cc.out,if_pos hcv]);have hcb:((f:Int)==(CV:Nat))=true:=by simp;omega
     have CC:=zh (fun W=>pkConnects_any ⟨0,false,false,0, [], [],0,c,cl,(kp:Nat),true,wt,wb,(Q:Nat),wr,false,false, [], [],false,0, [], [], []⟩ (.slice none 0 0) (.slice none 0 0) (.slice none 0 0) W (by have:=HQ4.out;simp only;omega));simp only[HCV.out]at CC;clear hcv
     go_upto_region 12 with fail
     refine wp_region_line KeepsAll _ 4 rfl (by kernel_rfl) (by kernel_rfl) (fun _=>Keeps.refl _ _) (fun _ _ _ h k=>h.trans k (by simp)) ?_;simp only[zts,ztz,zds,zdz];refine lq (.int .i64 (f:Nat)) ?_;refine lw 29 (.tmp 4) (W0.heap.size) ((zL 0 false false 0 [] [] 0 c cl (kp:Nat) true wt wb (Q:Nat) wr false false [] [] false 0 (.slice none 0 0) (.slice none 0 0) (.slice none 0 0))) Tryz.underlying29 (fun W hW=>range_row (ST8.out.g.keeps hW)) ?_;refine loose_qc 130 (#[.agg (zP 0 false false 0 [] [] 0 c cl (kp:Nat) true wt wb (Q:Nat) wr false false [] [] false 0 (.slice none 0 0) (.slice none 0 0) (.slice none 0 0))]) (.int .i64 (CV:Nat)) (fun _=>by kernel_rfl) (fun _ _=>by kernel_rfl) (fun W hW=>CC.out W) ?_;refine loose_q (.bool true) (fun _=>by kernel_rfl) (fun W _=>(show _=Result.ok (Next.value (.bool ((f:Int)==(CV:Nat)))) W by kernel_rfl).trans (by rw[hcb])) ?_;refine loose_nil (fun W vals hW hkn=> ?_);simp only[addEnt,knowsAll]at hkn
     try simp only[and_true]at hkn
     simp only[addEnt,fill,Act.put,zsa,zsc,zsz];clear hkn;have STe:=zh (ST8.out.keeps hW);clear hW
     go_wp2_with (go_at_call 30;refine(pvMust_yes _).mono ?_;rintro e w' ⟨rfl,rfl⟩;refine Hid.out ?_)
     refine zh ?_
     go_upto_region 13 with fail
     refine wp_region_line KeepsAll _ 1 rfl (by kernel_rfl) (by kernel_rfl) (fun _=>Keeps.refl _ _) (fun _ _ _ h k=>h.trans k (by simp)) ?_;simp only[zts,ztz,zds,zdz];refine lw 29 (.tmp 4) (W0.heap.size) ((zL 0 false false 0 [] [] 0 c cl (kp:Nat) true wt wb (Q:Nat) wr false false [] [] false 0 (.slice none 0 0) (.slice none 0 0) (.slice none 0 0))) Tryz.underlying29 (fun W hW=>range_row (STe.out.g.keeps hW)) ?_;refine loose_nil (fun W vals hW hkn=> ?_);simp only[addEnt,knowsAll]at hkn
     try simp only[and_true]at hkn
     simp only[addEnt,fill,Act.put,zsa,zsc,zsz];clear hkn;have STz:=zh (STe.out.keeps hW);clear hW;refine wpList_store_row rfl (.tmp 4) (.tmp 74) 29 rfl W0.heap.size (zP 0 false false 0 [] [] 0 c cl (kp:Nat) true wt wb (Q:Nat) wr false false [] [] false 0 (.slice none 0 0) (.slice none 0 0) (.slice none 0 0)) (zP 0 false false 0 [] [] 0 c cl (kp:Nat) true wt wb (Q:Nat) wr false false [] [] false 0 (.slice none 0 0) (.slice none 0 0) (.slice none 0 0)) STz.out.g (by kernel_rfl) rfl (by simp[Value.oneCell']) rfl rfl ?_;intro w7 r7 k7;have HR7:=zh r7;have HRD7:=zh (STz.out.rd.far k7 (fun x hx=>by have:=STz.out.o;simp at hx;omega));have HK7:=zh (STz.out.k.trans k7 (fun x hx hlt=>by have:=STz.out.o;simp at hx;omega));clear r7 k7
     go_wp2_with fail
     obtain⟨d,hu9,hd9⟩:=undPack;refine bodyPost_ret (results_row (s:=4) (cs:=(zL 0 false false 0 [] [] 0 c cl (kp:Nat) true wt wb (Q:Nat) wr false false [] [] false 0 (.slice none 0 0) (.slice none 0 0) (.slice none 0 0))) rfl rfl (range_row HR7.out) hu9 hd9 (by kernel_rfl)) rfl ⟨HK7.out, ?_⟩;rw[HT.out,HCm.out];exact⟨_,_,_,rfl,PkT.empty rfl rfl rfl,HRD7.out⟩
    ·skip
     have HT:=zh (show X=none by rw[HD6cc.out,if_neg hcv]);have hcb:((f:Int)==(CV:Nat))=false:=by simp;omega
     have CC:=zh (fun W=>pkConnects_any ⟨0,false,false,0, [], [],0,c,cl,(kp:Nat),true,wt,wb,(Q:Nat),wr,false,false, [], [],false,0, [], [], []⟩ (.slice none 0 0) (.slice none 0 0) (.slice none 0 0) W (by have:=HQ4.out;simp only;omega));simp only[HCV.out]at CC;clear hcv
     go_upto_region 12 with fail
     refine wp_region_line KeepsAll _ 4 rfl (by kernel_rfl) (by kernel_rfl) (fun _=>Keeps.refl _ _) (fun _ _ _ h k=>h.trans k (by simp)) ?_;simp only[zts,ztz,zds,zdz];refine lq (.int .i64 (f:Nat)) ?_;refine lw 29 (.tmp 4) (W0.heap.size) ((zL 0 false false 0 [] [] 0 c cl (kp:Nat) true wt wb (Q:Nat) wr false false [] [] false 0 (.slice none 0 0) (.slice none 0 0) (.slice none 0 0))) Tryz.underlying29 (fun W hW=>range_row (ST8.out.g.keeps hW)) ?_;refine loose_qc 130 (#[.agg (zP 0 false false 0 [] [] 0 c cl (kp:Nat) true wt wb (Q:Nat) wr false false [] [] false 0 (.slice none 0 0) (.slice none 0 0) (.slice none 0 0))]) (.int .i64 (CV:Nat)) (fun _=>by kernel_rfl) (fun _ _=>by kernel_rfl) (fun W hW=>CC.out W) ?_;refine loose_q (.bool false) (fun _=>by kernel_rfl) (fun W _=>(show _=Result.ok (Next.value (.bool ((f:Int)==(CV:Nat)))) W by kernel_rfl).trans (by rw[hcb])) ?_;refine loose_nil (fun W vals hW hkn=> ?_);simp only[addEnt,knowsAll]at hkn
     try simp only[and_true]at hkn
     simp only[addEnt,fill,Act.put,zsa,zsc,zsz];clear hkn;have STe:=zh (ST8.out.keeps hW);clear hW
     go_wp2_with (go_at_call 30;refine(pvMust_no _).mono ?_;rintro e w' ⟨rfl,rfl⟩)
     exact⟨rfl,STe.out.k,by rw[HT.out]⟩
 | false=>
  have HD6:=zh (HD5.out.trans (show _=(rdIf hu V5).bind fun u=>(rdIf hp u.2).bind fun pw=>if CV=f then some (pkCm f kp c [] [] u.1 pw.1,pw.2)else none by rw[rdIf_no,Option.bind_some,rdIf_no,Option.bind_some]));have x10:=ST7.out.g.cell 10;simp only[zga,zgz,zgs]at x10
  go_upto_region 8 with fail
  clear x10
  cases hu with
  | true=>
   have x15:=ST7.out.g.cell 15;simp only[zga,zgz,zgs]at x15
   go_upto_region 9 with fail
   clear x15
   rcases hEU:rdTx V5 with _ | ⟨u,V8⟩
   ·skip
    have HT:=zh (show X=none by rw[HD6.out,rdIf_yes,hEU];rfl);have HE:=zh hEU;have c0:=ST7.out.b.cell 0;simp only[zga,zgz]at c0;clear hEU
    go_wp2_with fail
    refine(pvTxt_none ST7.out.rd HE.out).mono ?_;rintro e w3 ⟨hk,rfl⟩;exact⟨rfl,ST7.out.k.trans hk (fun _ hx _=>hx),by rw[HT.out]⟩
   have HD6b:=zh (HD6.out.trans (show _=(rdIf hp V8).bind fun pw=>if CV=f then some (pkCm f kp c [] [] u pw.1,pw.2)else none by rw[rdIf_yes,hEU];rfl));have EU:=zh hEU;have c0:=ST7.out.b.cell 0;simp only[zga,zgz]at c0;clear hEU
   go_wp2_with fail
   refine(pvTxt_some ST7.out.rd EU.out).mono ?_;rintro e w11 ⟨hk,rfl,hrd⟩;unfold strV;have STr:=zh (ST7.out.read hk hrd);clear hk hrd c0;have f17:=STr.out.g.frozen 17;have g17:=STr.out.g.cell 17;simp only[zga,zgz,zgs]at g17
   go_upto_region 10 with fail
   obtain⟨W11,hW11⟩:∃W11,w11.setCell ⟨W0.heap.size,17,none⟩ (.string ⟨u.toArray⟩)=W11:=⟨_,rfl⟩;have ST11:=zh (show CnSt w W11 base r w.heap.size W0.heap.size (zP 0 false false 0 [] [] 0 c cl (kp:Nat) false [] [] (Q:Nat) wr true hp u [] false 0 (.slice none 0 0) (.slice none 0 0) (.slice none 0 0)) V8 by rw[←hW11];exact STr.out.put 17 _);rw[hW11];clear hW11 f17 g17 STr
   cases hp with
   | true=>
    have x16:=ST11.out.g.cell 16;simp only[zga,zgz,zgs]at x16
    go_upto_region 11 with fail
    clear x16
    rcases hEP:rdTx V8 with _ | ⟨pw,V9⟩
    ·skip
     have HT:=zh (show X=none by rw[HD6b.out,rdIf_yes,hEP];rfl);have HE:=zh hEP;have c0:=ST11.out.b.cell 0;simp only[zga,zgz]at c0;clear hEP
     go_wp2_with fail
     refine(pvTxt_none ST11.out.rd HE.out).mono ?_;rintro e w3 ⟨hk,rfl⟩;exact⟨rfl,ST11.out.k.trans hk (fun _ hx _=>hx),by rw[HT.out]⟩
    have HD6bb:=zh (HD6b.out.trans (show _=if CV=f then some (pkCm f kp c [] [] u pw,V9)else none by rw[rdIf_yes,hEP];rfl));have EP:=zh hEP;have c0:=ST11.out.b.cell 0;simp only[zga,zgz]at c0;clear hEP
    go_wp2_with fail
    refine(pvTxt_some ST11.out.rd EP.out).mono ?_;rintro e w12 ⟨hk,rfl,hrd⟩;unfold strV;have STr:=zh (ST11.out.read hk hrd);clear hk hrd c0;have f18:=STr.out.g.frozen 18;have g18:=STr.out.g.cell 18;simp only[zga,zgz,zgs]at g18
    go_upto_region 12 with fail
    obtain⟨W12,hW12⟩:∃W12,w12.setCell ⟨W0.heap.size,18,none⟩ (.string ⟨pw.toArray⟩)=W12:=⟨_,rfl⟩;have ST12:=zh (show CnSt w W12 base r w.heap.size W0.heap.size (zP 0 false false 0 [] [] 0 c cl (kp:Nat) false [] [] (Q:Nat) wr true true u pw false 0 (.slice none 0 0) (.slice none 0 0) (.slice none 0 0)) V9 by rw[←hW12];exact STr.out.put 18 _);rw[hW12];clear hW12 f18 g18 STr
    by_cases hcv:CV=f
    ·skip
     have HT:=zh (show X=some (pkCm f kp c [] [] u pw,V9)by rw[HD6bb.out,if_pos hcv]);have hcb:((f:Int)==(CV:Nat))=true:=by simp;omega
     have CC:=zh (fun W=>pkConnects_any ⟨0,false,false,0, [], [],0,c,cl,(kp:Nat),false, [], [],(Q:Nat),wr,true,true,u,pw,false,0, [], [], []⟩ (.slice none 0 0) (.slice none 0 0) (.slice none 0 0) W (by have:=HQ4.out;simp only;omega));simp only[HCV.out]at CC;clear hcv
     go_upto_region 12 with fail
     refine wp_region_line KeepsAll _ 4 rfl (by kernel_rfl) (by kernel_rfl) (fun _=>Keeps.refl _ _) (fun _ _ _ h k=>h.trans k (by simp)) ?_;simp only[zts,ztz,zds,zdz];refine lq (.int .i64 (f:Nat)) ?_;refine lw 29 (.tmp 4) (W0.heap.size) ((zL 0 false false 0 [] [] 0 c cl (kp:Nat) false [] [] (Q:Nat) wr true true u pw false 0 (.slice none 0 0) (.slice none 0 0) (.slice none 0 0))) Tryz.underlying29 (fun W hW=>range_row (ST12.out.g.keeps hW)) ?_;refine loose_qc 130 (#[.agg (zP 0 false false 0 [] [] 0 c cl (kp:Nat) false [] [] (Q:Nat) wr true true u pw false 0 (.slice none 0 0) (.slice none 0 0) (.slice none 0 0))]) (.int .i64 (CV:Nat)) (fun _=>by kernel_rfl) (fun _ _=>by kernel_rfl) (fun W hW=>CC.out W) ?_;refine loose_q (.bool true) (fun _=>by kernel_rfl) (fun W _=>(show _=Result.ok (Next.value (.bool ((f:Int)==(CV:Nat)))) W by kernel_rfl).trans (by rw[hcb])) ?_;refine loose_nil (fun W vals hW hkn=> ?_);simp only[addEnt,knowsAll]at hkn
     try simp only[and_true]at hkn
     simp only[addEnt,fill,Act.put,zsa,zsc,zsz];clear hkn;have STe:=zh (ST12.out.keeps hW);clear hW
     go_wp2_with (go_at_call 30;refine(pvMust_yes _).mono ?_;rintro e w' ⟨rfl,rfl⟩;refine Hid.out ?_)
     refine zh ?_
     go_upto_region 13 with fail
     refine wp_region_line KeepsAll _ 1 rfl (by kernel_rfl) (by kernel_rfl) (fun _=>Keeps.refl _ _) (fun _ _ _ h k=>h.trans k (by simp)) ?_;simp only[zts,ztz,zds,zdz];refine lw 29 (.tmp 4) (W0.heap.size) ((zL 0 false false 0 [] [] 0 c cl (kp:Nat) false [] [] (Q:Nat) wr true true u pw false 0 (.slice none 0 0) (.slice none 0 0) (.slice none 0 0))) Tryz.underlying29 (fun W hW=>range_row (STe.out.g.keeps hW)) ?_;refine loose_nil (fun W vals hW hkn=> ?_);simp only[addEnt,knowsAll]at hkn
     try simp only[and_true]at hkn
     simp only[addEnt,fill,Act.put,zsa,zsc,zsz];clear hkn;have STz:=zh (STe.out.keeps hW);clear hW;refine wpList_store_row rfl (.tmp 4) (.tmp 74) 29 rfl W0.heap.size (zP 0 false false 0 [] [] 0 c cl (kp:Nat) false [] [] (Q:Nat) wr true true u pw false 0 (.slice none 0 0) (.slice none 0 0) (.slice none 0 0)) (zP 0 false false 0 [] [] 0 c cl (kp:Nat) false [] [] (Q:Nat) wr true true u pw false 0 (.slice none 0 0) (.slice none 0 0) (.slice none 0 0)) STz.out.g (by kernel_rfl) rfl (by simp[Value.oneCell']) rfl rfl ?_;intro w7 r7 k7;have HR7:=zh r7;have HRD7:=zh (STz.out.rd.far k7 (fun x hx=>by have:=STz.out.o;simp at hx;omega));have HK7:=zh (STz.out.k.trans k7 (fun x hx hlt=>by have:=STz.out.o;simp at hx;omega));clear r7 k7
     go_wp2_with fail
     obtain⟨d,hu9,hd9⟩:=undPack;refine bodyPost_ret (results_row (s:=4) (cs:=(zL 0 false false 0 [] [] 0 c cl (kp:Nat) false [] [] (Q:Nat) wr true true u pw false 0 (.slice none 0 0) (.slice none 0 0) (.slice none 0 0))) rfl rfl (range_row HR7.out) hu9 hd9 (by kernel_rfl)) rfl ⟨HK7.out, ?_⟩;rw[HT.out,HCm.out];exact⟨_,_,_,rfl,PkT.empty rfl rfl rfl,HRD7.out⟩
    ·skip
     have HT:=zh (show X=none by rw[HD6bb.out,if_neg hcv]);have hcb:((f:Int)==(CV:Nat))=false:=by simp;omega
     have CC:=zh (fun W=>pkConnects_any ⟨0,false,false,0, [], [],0,c,cl,(kp:Nat),false, [], [],(Q:Nat),wr,true,true,u,pw,false,0, [], [], []⟩ (.slice none 0 0) (.slice none 0 0) (.slice none 0 0) W (by have:=HQ4.out;simp only;omega));simp only[HCV.out]at CC;clear hcv
     go_upto_region 12 with fail
     refine wp_region_line KeepsAll _ 4 rfl (by kernel_rfl) (by kernel_rfl) (fun _=>Keeps.refl _ _) (fun _ _ _ h k=>h.trans k (by simp)) ?_;simp only[zts,ztz,zds,zdz];refine lq (.int .i64 (f:Nat)) ?_;refine lw 29 (.tmp 4) (W0.heap.size) ((zL 0 false false 0 [] [] 0 c cl (kp:Nat) false [] [] (Q:Nat) wr true true u pw false 0 (.slice none 0 0) (.slice none 0 0) (.slice none 0 0))) Tryz.underlying29 (fun W hW=>range_row (ST12.out.g.keeps hW)) ?_;refine loose_qc 130 (#[.agg (zP 0 false false 0 [] [] 0 c cl (kp:Nat) false [] [] (Q:Nat) wr true true u pw false 0 (.slice none 0 0) (.slice none 0 0) (.slice none 0 0))]) (.int .i64 (CV:Nat)) (fun _=>by kernel_rfl) (fun _ _=>by kernel_rfl) (fun W hW=>CC.out W) ?_;refine loose_q (.bool false) (fun _=>by kernel_rfl) (fun W _=>(show _=Result.ok (Next.value (.bool ((f:Int)==(CV:Nat)))) W by kernel_rfl).trans (by rw[hcb])) ?_;refine loose_nil (fun W vals hW hkn=> ?_);simp only[addEnt,knowsAll]at hkn
     try simp only[and_true]at hkn
     simp only[addEnt,fill,Act.put,zsa,zsc,zsz];clear hkn;have STe:=zh (ST12.out.keeps hW);clear hW
     go_wp2_with (go_at_call 30;refine(pvMust_no _).mono ?_;rintro e w' ⟨rfl,rfl⟩)
     exact⟨rfl,STe.out.k,by rw[HT.out]⟩
   | false=>
    have HD6bc:=zh (HD6b.out.trans (show _=if CV=f then some (pkCm f kp c [] [] u [],V8)else none by rw[rdIf_no];rfl));have x16:=ST11.out.g.cell 16;simp only[zga,zgz,zgs]at x16
    go_upto_region 12 with fail
    clear x16
    by_cases hcv:CV=f
    ·skip
     have HT:=zh (show X=some (pkCm f kp c [] [] u [],V8)by rw[HD6bc.out,if_pos hcv]);have hcb:((f:Int)==(CV:Nat))=true:=by simp;omega
     have CC:=zh (fun W=>pkConnects_any ⟨0,false,false,0, [], [],0,c,cl,(kp:Nat),false, [], [],(Q:Nat),wr,true,false,u, [],false,0, [], [], []⟩ (.slice none 0 0) (.slice none 0 0) (.slice none 0 0) W (by have:=HQ4.out;simp only;omega));simp only[HCV.out]at CC;clear hcv
     go_upto_region 12 with fail
     refine wp_region_line KeepsAll _ 4 rfl (by kernel_rfl) (by kernel_rfl) (fun _=>Keeps.refl _ _) (fun _ _ _ h k=>h.trans k (by simp)) ?_;simp only[zts,ztz,zds,zdz];refine lq (.int .i64 (f:Nat)) ?_;refine lw 29 (.tmp 4) (W0.heap.size) ((zL 0 false false 0 [] [] 0 c cl (kp:Nat) false [] [] (Q:Nat) wr true false u [] false 0 (.slice none 0 0) (.slice none 0 0) (.slice none 0 0))) Tryz.underlying29 (fun W hW=>range_row (ST11.out.g.keeps hW)) ?_;refine loose_qc 130 (#[.agg (zP 0 false false 0 [] [] 0 c cl (kp:Nat) false [] [] (Q:Nat) wr true false u [] false 0 (.slice none 0 0) (.slice none 0 0) (.slice none 0 0))]) (.int .i64 (CV:Nat)) (fun _=>by kernel_rfl) (fun _ _=>by kernel_rfl) (fun W hW=>CC.out W) ?_;refine loose_q (.bool true) (fun _=>by kernel_rfl) (fun W _=>(show _=Result.ok (Next.value (.bool ((f:Int)==(CV:Nat)))) W by kernel_rfl).trans (by rw[hcb])) ?_;refine loose_nil (fun W vals hW hkn=> ?_);simp only[addEnt,knowsAll]at hkn
     try simp only[and_true]at hkn
     simp only[addEnt,fill,Act.put,zsa,zsc,zsz];clear hkn;have STe:=zh (ST11.out.keeps hW);clear hW
     go_wp2_with (go_at_call 30;refine(pvMust_yes _).mono ?_;rintro e w' ⟨rfl,rfl⟩;refine Hid.out ?_)
     refine zh ?_
     go_upto_region 13 with fail
     refine wp_region_line KeepsAll _ 1 rfl (by kernel_rfl) (by kernel_rfl) (fun _=>Keeps.refl _ _) (fun _ _ _ h k=>h.trans k (by simp)) ?_;simp only[zts,ztz,zds,zdz];refine lw 29 (.tmp 4) (W0.heap.size) ((zL 0 false false 0 [] [] 0 c cl (kp:Nat) false [] [] (Q:Nat) wr true false u [] false 0 (.slice none 0 0) (.slice none 0 0) (.slice none 0 0))) Tryz.underlying29 (fun W hW=>range_row (STe.out.g.keeps hW)) ?_;refine loose_nil (fun W vals hW hkn=> ?_);simp only[addEnt,knowsAll]at hkn
     try simp only[and_true]at hkn
     simp only[addEnt,fill,Act.put,zsa,zsc,zsz];clear hkn;have STz:=zh (STe.out.keeps hW);clear hW;refine wpList_store_row rfl (.tmp 4) (.tmp 74) 29 rfl W0.heap.size (zP 0 false false 0 [] [] 0 c cl (kp:Nat) false [] [] (Q:Nat) wr true false u [] false 0 (.slice none 0 0) (.slice none 0 0) (.slice none 0 0)) (zP 0 false false 0 [] [] 0 c cl (kp:Nat) false [] [] (Q:Nat) wr true false u [] false 0 (.slice none 0 0) (.slice none 0 0) (.slice none 0 0)) STz.out.g (by kernel_rfl) rfl (by simp[Value.oneCell']) rfl rfl ?_;intro w7 r7 k7;have HR7:=zh r7;have HRD7:=zh (STz.out.rd.far k7 (fun x hx=>by have:=STz.out.o;simp at hx;omega));have HK7:=zh (STz.out.k.trans k7 (fun x hx hlt=>by have:=STz.out.o;simp at hx;omega));clear r7 k7
     go_wp2_with fail
     obtain⟨d,hu9,hd9⟩:=undPack;refine bodyPost_ret (results_row (s:=4) (cs:=(zL 0 false false 0 [] [] 0 c cl (kp:Nat) false [] [] (Q:Nat) wr true false u [] false 0 (.slice none 0 0) (.slice none 0 0) (.slice none 0 0))) rfl rfl (range_row HR7.out) hu9 hd9 (by kernel_rfl)) rfl ⟨HK7.out, ?_⟩;rw[HT.out,HCm.out];exact⟨_,_,_,rfl,PkT.empty rfl rfl rfl,HRD7.out⟩
    ·skip
     have HT:=zh (show X=none by rw[HD6bc.out,if_neg hcv]);have hcb:((f:Int)==(CV:Nat))=false:=by simp;omega
     have CC:=zh (fun W=>pkConnects_any ⟨0,false,false,0, [], [],0,c,cl,(kp:Nat),false, [], [],(Q:Nat),wr,true,false,u, [],false,0, [], [], []⟩ (.slice none 0 0) (.slice none 0 0) (.slice none 0 0) W (by have:=HQ4.out;simp only;omega));simp only[HCV.out]at CC;clear hcv
     go_upto_region 12 with fail
     refine wp_region_line KeepsAll _ 4 rfl (by kernel_rfl) (by kernel_rfl) (fun _=>Keeps.refl _ _) (fun _ _ _ h k=>h.trans k (by simp)) ?_;simp only[zts,ztz,zds,zdz];refine lq (.int .i64 (f:Nat)) ?_;refine lw 29 (.tmp 4) (W0.heap.size) ((zL 0 false false 0 [] [] 0 c cl (kp:Nat) false [] [] (Q:Nat) wr true false u [] false 0 (.slice none 0 0) (.slice none 0 0) (.slice none 0 0))) Tryz.underlying29 (fun W hW=>range_row (ST11.out.g.keeps hW)) ?_;refine loose_qc 130 (#[.agg (zP 0 false false 0 [] [] 0 c cl (kp:Nat) false [] [] (Q:Nat) wr true false u [] false 0 (.slice none 0 0) (.slice none 0 0) (.slice none 0 0))]) (.int .i64 (CV:Nat)) (fun _=>by kernel_rfl) (fun _ _=>by kernel_rfl) (fun W hW=>CC.out W) ?_;refine loose_q (.bool false) (fun _=>by kernel_rfl) (fun W _=>(show _=Result.ok (Next.value (.bool ((f:Int)==(CV:Nat)))) W by kernel_rfl).trans (by rw[hcb])) ?_;refine loose_nil (fun W vals hW hkn=> ?_);simp only[addEnt,knowsAll]at hkn
     try simp only[and_true]at hkn
     simp only[addEnt,fill,Act.put,zsa,zsc,zsz];clear hkn;have STe:=zh (ST11.out.keeps hW);clear hW
     go_wp2_with (go_at_call 30;refine(pvMust_no _).mono ?_;rintro e w' ⟨rfl,rfl⟩)
     exact⟨rfl,STe.out.k,by rw[HT.out]⟩
  | false=>
   have HD6c:=zh (HD6.out.trans (show _=(rdIf hp V5).bind fun pw=>if CV=f then some (pkCm f kp c [] [] [] pw.1,pw.2)else none by rw[rdIf_no];rfl));have x15:=ST7.out.g.cell 15;simp only[zga,zgz,zgs]at x15
   go_upto_region 10 with fail
   clear x15
   cases hp with
   | true=>
    have x16:=ST7.out.g.cell 16;simp only[zga,zgz,zgs]at x16
    go_upto_region 11 with fail
    clear x16
    rcases hEP:rdTx V5 with _ | ⟨pw,V9⟩
    ·skip
     have HT:=zh (show X=none by rw[HD6c.out,rdIf_yes,hEP];rfl);have HE:=zh hEP;have c0:=ST7.out.b.cell 0;simp only[zga,zgz]at c0;clear hEP
     go_wp2_with fail
     refine(pvTxt_none ST7.out.rd HE.out).mono ?_;rintro e w3 ⟨hk,rfl⟩;exact⟨rfl,ST7.out.k.trans hk (fun _ hx _=>hx),by rw[HT.out]⟩
    have HD6cb:=zh (HD6c.out.trans (show _=if CV=f then some (pkCm f kp c [] [] [] pw,V9)else none by rw[rdIf_yes,hEP];rfl));have EP:=zh hEP;have c0:=ST7.out.b.cell 0;simp only[zga,zgz]at c0;clear hEP
    go_wp2_with fail
    refine(pvTxt_some ST7.out.rd EP.out).mono ?_;rintro e w12 ⟨hk,rfl,hrd⟩;unfold strV;have STr:=zh (ST7.out.read hk hrd);clear hk hrd c0;have f18:=STr.out.g.frozen 18;have g18:=STr.out.g.cell 18;simp only[zga,zgz,zgs]at g18
    go_upto_region 12 with fail
    obtain⟨W12,hW12⟩:∃W12,w12.setCell ⟨W0.heap.size,18,none⟩ (.string ⟨pw.toArray⟩)=W12:=⟨_,rfl⟩;have ST12:=zh (show CnSt w W12 base r w.heap.size W0.heap.size (zP 0 false false 0 [] [] 0 c cl (kp:Nat) false [] [] (Q:Nat) wr false true [] pw false 0 (.slice none 0 0) (.slice none 0 0) (.slice none 0 0)) V9 by rw[←hW12];exact STr.out.put 18 _);rw[hW12];clear hW12 f18 g18 STr
    by_cases hcv:CV=f
    ·skip
     have HT:=zh (show X=some (pkCm f kp c [] [] [] pw,V9)by rw[HD6cb.out,if_pos hcv]);have hcb:((f:Int)==(CV:Nat))=true:=by simp;omega
     have CC:=zh (fun W=>pkConnects_any ⟨0,false,false,0, [], [],0,c,cl,(kp:Nat),false, [], [],(Q:Nat),wr,false,true, [],pw,false,0, [], [], []⟩ (.slice none 0 0) (.slice none 0 0) (.slice none 0 0) W (by have:=HQ4.out;simp only;omega));simp only[HCV.out]at CC;clear hcv
     go_upto_region 12 with fail
     refine wp_region_line KeepsAll _ 4 rfl (by kernel_rfl) (by kernel_rfl) (fun _=>Keeps.refl _ _) (fun _ _ _ h k=>h.trans k (by simp)) ?_;simp only[zts,ztz,zds,zdz];refine lq (.int .i64 (f:Nat)) ?_;refine lw 29 (.tmp 4) (W0.heap.size) ((zL 0 false false 0 [] [] 0 c cl (kp:Nat) false [] [] (Q:Nat) wr false true [] pw false 0 (.slice none 0 0) (.slice none 0 0) (.slice none 0 0))) Tryz.underlying29 (fun W hW=>range_row (ST12.out.g.keeps hW)) ?_;refine loose_qc 130 (#[.agg (zP 0 false false 0 [] [] 0 c cl (kp:Nat) false [] [] (Q:Nat) wr false true [] pw false 0 (.slice none 0 0) (.slice none 0 0) (.slice none 0 0))]) (.int .i64 (CV:Nat)) (fun _=>by kernel_rfl) (fun _ _=>by kernel_rfl) (fun W hW=>CC.out W) ?_;refine loose_q (.bool true) (fun _=>by kernel_rfl) (fun W _=>(show _=Result.ok (Next.value (.bool ((f:Int)==(CV:Nat)))) W by kernel_rfl).trans (by rw[hcb])) ?_;refine loose_nil (fun W vals hW hkn=> ?_);simp only[addEnt,knowsAll]at hkn
     try simp only[and_true]at hkn
     simp only[addEnt,fill,Act.put,zsa,zsc,zsz];clear hkn;have STe:=zh (ST12.out.keeps hW);clear hW
     go_wp2_with (go_at_call 30;refine(pvMust_yes _).mono ?_;rintro e w' ⟨rfl,rfl⟩;refine Hid.out ?_)
     refine zh ?_
     go_upto_region 13 with fail
     refine wp_region_line KeepsAll _ 1 rfl (by kernel_rfl) (by kernel_rfl) (fun _=>Keeps.refl _ _) (fun _ _ _ h k=>h.trans k (by simp)) ?_;simp only[zts,ztz,zds,zdz];refine lw 29 (.tmp 4) (W0.heap.size) ((zL 0 false false 0 [] [] 0 c cl (kp:Nat) false [] [] (Q:Nat) wr false true [] pw false 0 (.slice none 0 0) (.slice none 0 0) (.slice none 0 0))) Tryz.underlying29 (fun W hW=>range_row (STe.out.g.keeps hW)) ?_;refine loose_nil (fun W vals hW hkn=> ?_);simp only[addEnt,knowsAll]at hkn
     try simp only[and_true]at hkn
     simp only[addEnt,fill,Act.put,zsa,zsc,zsz];clear hkn;have STz:=zh (STe.out.keeps hW);clear hW;refine wpList_store_row rfl (.tmp 4) (.tmp 74) 29 rfl W0.heap.size (zP 0 false false 0 [] [] 0 c cl (kp:Nat) false [] [] (Q:Nat) wr false true [] pw false 0 (.slice none 0 0) (.slice none 0 0) (.slice none 0 0)) (zP 0 false false 0 [] [] 0 c cl (kp:Nat) false [] [] (Q:Nat) wr false true [] pw false 0 (.slice none 0 0) (.slice none 0 0) (.slice none 0 0)) STz.out.g (by kernel_rfl) rfl (by simp[Value.oneCell']) rfl rfl ?_;intro w7 r7 k7;have HR7:=zh r7;have HRD7:=zh (STz.out.rd.far k7 (fun x hx=>by have:=STz.out.o;simp at hx;omega));have HK7:=zh (STz.out.k.trans k7 (fun x hx hlt=>by have:=STz.out.o;simp at hx;omega));clear r7 k7
     go_wp2_with fail
     obtain⟨d,hu9,hd9⟩:=undPack;refine bodyPost_ret (results_row (s:=4) (cs:=(zL 0 false false 0 [] [] 0 c cl (kp:Nat) false [] [] (Q:Nat) wr false true [] pw false 0 (.slice none 0 0) (.slice none 0 0) (.slice none 0 0))) rfl rfl (range_row HR7.out) hu9 hd9 (by kernel_rfl)) rfl ⟨HK7.out, ?_⟩;rw[HT.out,HCm.out];exact⟨_,_,_,rfl,PkT.empty rfl rfl rfl,HRD7.out⟩
    ·skip
     have HT:=zh (show X=none by rw[HD6cb.out,if_neg hcv]);have hcb:((f:Int)==(CV:Nat))=false:=by simp;omega
     have CC:=zh (fun W=>pkConnects_any ⟨0,false,false,0, [], [],0,c,cl,(kp:Nat),false, [], [],(Q:Nat),wr,false,true, [],pw,false,0, [], [], []⟩ (.slice none 0 0) (.slice none 0 0) (.slice none 0 0) W (by have:=HQ4.out;simp only;omega));simp only[HCV.out]at CC;clear hcv
     go_upto_region 12 with fail
     refine wp_region_line KeepsAll _ 4 rfl (by kernel_rfl) (by kernel_rfl) (fun _=>Keeps.refl _ _) (fun _ _ _ h k=>h.trans k (by simp)) ?_;simp only[zts,ztz,zds,zdz];refine lq (.int .i64 (f:Nat)) ?_;refine lw 29 (.tmp 4) (W0.heap.size) ((zL 0 false false 0 [] [] 0 c cl (kp:Nat) false [] [] (Q:Nat) wr false true [] pw false 0 (.slice none 0 0) (.slice none 0 0) (.slice none 0 0))) Tryz.underlying29 (fun W hW=>range_row (ST12.out.g.keeps hW)) ?_;refine loose_qc 130 (#[.agg (zP 0 false false 0 [] [] 0 c cl (kp:Nat) false [] [] (Q:Nat) wr false true [] pw false 0 (.slice none 0 0) (.slice none 0 0) (.slice none 0 0))]) (.int .i64 (CV:Nat)) (fun _=>by kernel_rfl) (fun _ _=>by kernel_rfl) (fun W hW=>CC.out W) ?_;refine loose_q (.bool false) (fun _=>by kernel_rfl) (fun W _=>(show _=Result.ok (Next.value (.bool ((f:Int)==(CV:Nat)))) W by kernel_rfl).trans (by rw[hcb])) ?_;refine loose_nil (fun W vals hW hkn=> ?_);simp only[addEnt,knowsAll]at hkn
     try simp only[and_true]at hkn
     simp only[addEnt,fill,Act.put,zsa,zsc,zsz];clear hkn;have STe:=zh (ST12.out.keeps hW);clear hW
     go_wp2_with (go_at_call 30;refine(pvMust_no _).mono ?_;rintro e w' ⟨rfl,rfl⟩)
     exact⟨rfl,STe.out.k,by rw[HT.out]⟩
   | false=>
    have HD6cc:=zh (HD6c.out.trans (show _=if CV=f then some (pkCm f kp c [] [] [] [],V5)else none by rw[rdIf_no];rfl));have x16:=ST7.out.g.cell 16;simp only[zga,zgz,zgs]at x16
    go_upto_region 12 with fail
    clear x16
    by_cases hcv:CV=f
    ·skip
     have HT:=zh (show X=some (pkCm f kp c [] [] [] [],V5)by rw[HD6cc.out,if_pos hcv]);have hcb:((f:Int)==(CV:Nat))=true:=by simp;omega
     have CC:=zh (fun W=>pkConnects_any ⟨0,false,false,0, [], [],0,c,cl,(kp:Nat),false, [], [],(Q:Nat),wr,false,false, [], [],false,0, [], [], []⟩ (.slice none 0 0) (.slice none 0 0) (.slice none 0 0) W (by have:=HQ4.out;simp only;omega));simp only[HCV.out]at CC;clear hcv
     go_upto_region 12 with fail
     refine wp_region_line KeepsAll _ 4 rfl (by kernel_rfl) (by kernel_rfl) (fun _=>Keeps.refl _ _) (fun _ _ _ h k=>h.trans k (by simp)) ?_;simp only[zts,ztz,zds,zdz];refine lq (.int .i64 (f:Nat)) ?_;refine lw 29 (.tmp 4) (W0.heap.size) ((zL 0 false false 0 [] [] 0 c cl (kp:Nat) false [] [] (Q:Nat) wr false false [] [] false 0 (.slice none 0 0) (.slice none 0 0) (.slice none 0 0))) Tryz.underlying29 (fun W hW=>range_row (ST7.out.g.keeps hW)) ?_;refine loose_qc 130 (#[.agg (zP 0 false false 0 [] [] 0 c cl (kp:Nat) false [] [] (Q:Nat) wr false false [] [] false 0 (.slice none 0 0) (.slice none 0 0) (.slice none 0 0))]) (.int .i64 (CV:Nat)) (fun _=>by kernel_rfl) (fun _ _=>by kernel_rfl) (fun W hW=>CC.out W) ?_;refine loose_q (.bool true) (fun _=>by kernel_rfl) (fun W _=>(show _=Result.ok (Next.value (.bool ((f:Int)==(CV:Nat)))) W by kernel_rfl).trans (by rw[hcb])) ?_;refine loose_nil (fun W vals hW hkn=> ?_);simp only[addEnt,knowsAll]at hkn
     try simp only[and_true]at hkn
     simp only[addEnt,fill,Act.put,zsa,zsc,zsz];clear hkn;have STe:=zh (ST7.out.keeps hW);clear hW
     go_wp2_with (go_at_call 30;refine(pvMust_yes _).mono ?_;rintro e w' ⟨rfl,rfl⟩;refine Hid.out ?_)
     refine zh ?_
     go_upto_region 13 with fail
     refine wp_region_line KeepsAll _ 1 rfl (by kernel_rfl) (by kernel_rfl) (fun _=>Keeps.refl _ _) (fun _ _ _ h k=>h.trans k (by simp)) ?_;simp only[zts,ztz,zds,zdz];refine lw 29 (.tmp 4) (W0.heap.size) ((zL 0 false false 0 [] [] 0 c cl (kp:Nat) false [] [] (Q:Nat) wr false false [] [] false 0 (.slice none 0 0) (.slice none 0 0) (.slice none 0 0))) Tryz.underlying29 (fun W hW=>range_row (STe.out.g.keeps hW)) ?_;refine loose_nil (fun W vals hW hkn=> ?_);simp only[addEnt,knowsAll]at hkn
     try simp only[and_true]at hkn
     simp only[addEnt,fill,Act.put,zsa,zsc,zsz];clear hkn;have STz:=zh (STe.out.keeps hW);clear hW;refine wpList_store_row rfl (.tmp 4) (.tmp 74) 29 rfl W0.heap.size (zP 0 false false 0 [] [] 0 c cl (kp:Nat) false [] [] (Q:Nat) wr false false [] [] false 0 (.slice none 0 0) (.slice none 0 0) (.slice none 0 0)) (zP 0 false false 0 [] [] 0 c cl (kp:Nat) false [] [] (Q:Nat) wr false false [] [] false 0 (.slice none 0 0) (.slice none 0 0) (.slice none 0 0)) STz.out.g (by kernel_rfl) rfl (by simp[Value.oneCell']) rfl rfl ?_;intro w7 r7 k7;have HR7:=zh r7;have HRD7:=zh (STz.out.rd.far k7 (fun x hx=>by have:=STz.out.o;simp at hx;omega));have HK7:=zh (STz.out.k.trans k7 (fun x hx hlt=>by have:=STz.out.o;simp at hx;omega));clear r7 k7
     go_wp2_with fail
     obtain⟨d,hu9,hd9⟩:=undPack;refine bodyPost_ret (results_row (s:=4) (cs:=(zL 0 false false 0 [] [] 0 c cl (kp:Nat) false [] [] (Q:Nat) wr false false [] [] false 0 (.slice none 0 0) (.slice none 0 0) (.slice none 0 0))) rfl rfl (range_row HR7.out) hu9 hd9 (by kernel_rfl)) rfl ⟨HK7.out, ?_⟩;rw[HT.out,HCm.out];exact⟨_,_,_,rfl,PkT.empty rfl rfl rfl,HRD7.out⟩
    ·skip
     have HT:=zh (show X=none by rw[HD6cc.out,if_neg hcv]);have hcb:((f:Int)==(CV:Nat))=false:=by simp;omega
     have CC:=zh (fun W=>pkConnects_any ⟨0,false,false,0, [], [],0,c,cl,(kp:Nat),false, [], [],(Q:Nat),wr,false,false, [], [],false,0, [], [], []⟩ (.slice none 0 0) (.slice none 0 0) (.slice none 0 0) W (by have:=HQ4.out;simp only;omega));simp only[HCV.out]at CC;clear hcv
     go_upto_region 12 with fail
     refine wp_region_line KeepsAll _ 4 rfl (by kernel_rfl) (by kernel_rfl) (fun _=>Keeps.refl _ _) (fun _ _ _ h k=>h.trans k (by simp)) ?_;simp only[zts,ztz,zds,zdz];refine lq (.int .i64 (f:Nat)) ?_;refine lw 29 (.tmp 4) (W0.heap.size) ((zL 0 false false 0 [] [] 0 c cl (kp:Nat) false [] [] (Q:Nat) wr false false [] [] false 0 (.slice none 0 0) (.slice none 0 0) (.slice none 0 0))) Tryz.underlying29 (fun W hW=>range_row (ST7.out.g.keeps hW)) ?_;refine loose_qc 130 (#[.agg (zP 0 false false 0 [] [] 0 c cl (kp:Nat) false [] [] (Q:Nat) wr false false [] [] false 0 (.slice none 0 0) (.slice none 0 0) (.slice none 0 0))]) (.int .i64 (CV:Nat)) (fun _=>by kernel_rfl) (fun _ _=>by kernel_rfl) (fun W hW=>CC.out W) ?_;refine loose_q (.bool false) (fun _=>by kernel_rfl) (fun W _=>(show _=Result.ok (Next.value (.bool ((f:Int)==(CV:Nat)))) W by kernel_rfl).trans (by rw[hcb])) ?_;refine loose_nil (fun W vals hW hkn=> ?_);simp only[addEnt,knowsAll]at hkn
     try simp only[and_true]at hkn
     simp only[addEnt,fill,Act.put,zsa,zsc,zsz];clear hkn;have STe:=zh (ST7.out.keeps hW);clear hW
     go_wp2_with (go_at_call 30;refine(pvMust_no _).mono ?_;rintro e w' ⟨rfl,rfl⟩)
     exact⟨rfl,STe.out.k,by rw[HT.out]⟩
end Go.Proofs.YtahbikfbjenfpaaGreatDoor
