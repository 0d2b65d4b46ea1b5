/- Package packet: how a connack is read, and all that is left. Package packet: how a publish is read. -/
import Derived.Test.YtahbikfbjenfpaaGreatDoorPa27
import Derived.Test.YtahbikfbjenfpaaGreatDoorPa29

namespace Go.Proofs.YtahbikfbjenfpaaGreatDoor
open Go.RowKit

set_option maxRecDepth 100000 in
set_option maxHeartbeats 2000000 in
theorem pkRd2_any (w:World)(base r:Nat)(f:Int)(l:List UInt8)(h:Rd w base r l):
  Calls Tryz.prog 57 #[.agg #[.pointer (some ⟨r,0,none⟩)],.int .i64 f] w (PkRdPost w base r (rdAck l)):=by
 have HNR:=zh h.lt;obtain⟨W0,hW0⟩:∃W0,w.alloc (.cells #[.pointer (some ⟨r,0,none⟩)] 74)=W0:=⟨_,rfl⟩;obtain⟨W1,hW1⟩:∃W1,W0.alloc (.cells zP0 29)=W1:=⟨_,rfl⟩;have k0:Keeps w W0 []:=by rw[←hW0];exact Keeps.alloc _ _
 have k1:Keeps W0 W1 []:=by rw[←hW1];exact Keeps.alloc _ _
 have s0:W0.heap.size=w.heap.size+1:=by rw[←hW0];simp
 have s1:W1.heap.size=w.heap.size+2:=by rw[←hW1];simp[s0]
 have HB:=zh (show Row W1 w.heap.size 74 #[.pointer (some ⟨r,0,none⟩)]from(show Row W0 w.heap.size 74 #[.pointer (some ⟨r,0,none⟩)]by rw[←hW0];exact Row.new _ _ _).keeps k1);have HR:=zh (show Row W1 W0.heap.size 29 zP0 by rw[←hW1];exact Row.new _ _ _);have HK:=zh (k0.then_ k1);have HS:=zh (And.intro s0 s1);have HRD:=zh ((h.keep k0 (by simp)).keep k1 (by simp));have c0:=HB.out.cell 0;simp only[zga,zgz]at c0;clear k0 k1 s0 s1 h
 rcases hE:rdN 1 l with _ | ⟨n,t⟩
 ·have HT:=zh (show rdAck l=none by unfold rdAck;rw[hE];rfl)
  have HE:=zh hE;clear hE
  go_enter Tryz.func57,Tryz.ntmps57
  go_wp2_with fail
  refine(pvNum_none (k' :=1) HRD.out HE.out (by omega) (by omega) rfl).mono ?_;rintro e w3 ⟨hk,rfl⟩;exact⟨rfl,(HK.out.weaken (T:= [r]) (by simp)).trans hk (fun _ hx _=>hx),by rw[HT.out]⟩
 ·have HE:=zh hE
  clear hE
  by_cases hn:n≤1
  ·have hn1:decide ((n:Int)≤1)=true:=decide_eq_true (by omega)
   obtain⟨z,hz⟩:∃z,((n:Int)==1)=z:=⟨_,rfl⟩;have HZ:=zh (show decide (n=1)=z by rw[←hz,Bool.eq_iff_iff];simp;omega)
   rcases hE2:rdN 1 t with _ | ⟨c,u⟩
   ·have HT:=zh (show rdAck l=none by unfold rdAck;rw[HE.out,Option.bind_some,if_pos hn];simp only;rw[hE2];rfl)
    have HE2:=zh hE2;clear hE2 hn
    go_enter Tryz.func57,Tryz.ntmps57
    go_wp2_with fail
    refine(pvNum1_some HRD.out HE.out).mono ?_;rintro e w3 ⟨hk,rfl,hrd⟩;have HK3:=zh hk;have HRD3:=zh hrd;clear c0 hk hrd hW0 hW1;have c0:=(HB.out.keep HK3.out (by have:=HNR.out;simp;omega)).cell 0;simp only[zga,zgz]at c0
    go_wp2_with (go_at_call 30;refine(pvMust_yes _).mono ?_;rintro e w' ⟨rfl,rfl⟩)
    refine(pvNum_none (k' :=1) HRD3.out HE2.out (by omega) (by omega) rfl).mono ?_;rintro e w4 ⟨hk,rfl⟩;exact⟨rfl,((HK.out.weaken (T:= [r]) (by simp)).trans HK3.out (fun _ hx _=>hx)).trans hk (fun _ hx _=>hx),by rw[HT.out]⟩
   ·have HT:=zh (show rdAck l=some ({pkZ with k:=2,pr:=z,code:=(c:Int)},u)by unfold rdAck;rw[HE.out,Option.bind_some,if_pos hn];simp only;rw[hE2,Option.bind_some,HZ.out])
    have HE2:=zh hE2;clear hE2 hn
    go_enter Tryz.func57,Tryz.ntmps57
    go_wp2_with fail
    refine(pvNum1_some HRD.out HE.out).mono ?_;rintro e w3 ⟨hk,rfl,hrd⟩;have HK3:=zh hk;have HRD3:=zh hrd;clear c0 hk hrd hW0 hW1;have c0:=(HB.out.keep HK3.out (by have:=HNR.out;simp;omega)).cell 0;simp only[zga,zgz]at c0
    go_wp2_with (go_at_call 30;refine(pvMust_yes _).mono ?_;rintro e w' ⟨rfl,rfl⟩)
    refine(pvNum1_some HRD3.out HE2.out).mono ?_;rintro e w4 ⟨hk,rfl,hrd⟩;have HK4:=zh (HK3.out.trans hk (fun _ hx _=>hx));have HRD4:=zh hrd;have HR4:=zh (HR.out.keep HK4.out (by have:=HNR.out;have:=HS.out;simp;omega));clear c0 hk hrd
    go_wp2_with (refine wpList_store_row rfl (.tmp 4) (.tmp 15) 29 rfl W0.heap.size (zP 0 false false 0 [] [] 0 [] false 0 false [] [] 0 false false false [] [] z (c:Nat) (.slice none 0 0) (.slice none 0 0) (.slice none 0 0)) zP0 HR4.out (by kernel_rfl) rfl (by simp[Value.oneCell']) rfl rfl ?_;intro w7 r7 k7;refine Hid.out ?_)
    refine zh ?_;have HR7:=zh r7;have HRD7:=zh (HRD4.out.far k7 (fun x hx=>by have:=HNR.out;have:=HS.out;simp at hx;omega));have HK7:=zh (((HK.out.weaken (T:= [r]) (by simp)).trans HK4.out (fun _ hx _=>hx)).trans k7 (fun x hx hlt=>by have:=HS.out;simp at hx;omega));clear r7 k7
    go_wp2_with fail
    obtain⟨d,hu,hd⟩:=undPack;refine bodyPost_ret (results_row (s:=4) (cs:=(zL 0 false false 0 [] [] 0 [] false 0 false [] [] 0 false false false [] [] z (c:Nat) (.slice none 0 0) (.slice none 0 0) (.slice none 0 0))) rfl rfl (range_row HR7.out) hu hd (by kernel_rfl)) rfl ⟨HK7.out, ?_⟩;rw[HT.out];exact⟨_,_,_,rfl,PkT.empty rfl rfl rfl,HRD7.out⟩
  ·have hn1:decide ((n:Int)≤1)=false:=decide_eq_false (by omega)
   have HT:=zh (show rdAck l=none by unfold rdAck;rw[HE.out,Option.bind_some,if_neg hn]);clear hn
   go_enter Tryz.func57,Tryz.ntmps57
   go_wp2_with fail
   refine(pvNum1_some HRD.out HE.out).mono ?_;rintro e w3 ⟨hk,rfl,hrd⟩;have HK3:=zh hk;clear c0 hk hrd hW0 hW1
   go_wp2_with (go_at_call 30;refine(pvMust_no _).mono ?_;rintro e w' ⟨rfl,rfl⟩)
   exact⟨rfl,(HK.out.weaken (T:= [r]) (by simp)).trans HK3.out (fun _ hx _=>hx),by rw[HT.out]⟩
theorem rdN_cons (a:UInt8)(u:List UInt8):rdN 1 (a::u)=some (a.toNat,u):=by
 unfold rdN;rw[if_pos (by simp)];simp[beN]
set_option maxRecDepth 100000 in
set_option maxHeartbeats 2000000 in
/-- All that is left. -/
theorem pkRest_any (w:World)(base r:Nat)(l:List UInt8)(h:Rd w base r l)(hl:l.length≤100000):
  Calls Tryz.prog 138 #[.agg #[.pointer (some ⟨r,0,none⟩)]] w fun e w' =>Keeps w w' [r]∧e= .returned (.string ⟨l.toArray⟩)∧Rd w' base r []:=by
 obtain⟨W0,hW0⟩:∃W0,w.alloc (.cells #[.pointer (some ⟨r,0,none⟩)] 74)=W0:=⟨_,rfl⟩;have k0:Keeps w W0 []:=by rw[←hW0];exact Keeps.alloc _ _
 have HB:=zh (show Row W0 w.heap.size 74 #[.pointer (some ⟨r,0,none⟩)]by rw[←hW0];exact Row.new _ _ _);have HK0:=zh k0;have HR0:=zh (h.keep k0 (by simp));have HRL:=zh h.lt;clear k0 h
 go_enter Tryz.func138,Tryz.ntmps138
 go_wp2_with fail
 clear hW0
 go_loopw [3] (fun v wr=>∃(d t:List UInt8),Hid ((Owned wr W0.heap.size v d∧Rd wr base r t)∧Keeps W0 wr [r]∧l=d++t)∧d.length+t.length≤l.length) (fun _ wr=>rdLen wr r)
 case atStart=>exact⟨[],l,zh ⟨⟨World.ownsRow_nil _ _ _ _,HR0.out⟩,Keeps.refl _ _,rfl⟩,by simp⟩
 case round=>
  obtain⟨d,t,HJ,hdt⟩:=hrel;have c0:=(HB.out.keep HJ.out.2.1 (by have:=HRL.out;simp;omega)).cell 0;simp only[zga,zgz]at c0;obtain⟨A,c,rfl,_⟩:=HJ.out.1.1.parts
  go_wp2_with fail
  refine(rdLeft_any _ _ _ _ HJ.out.1.2).mono ?_;rintro e w2 ⟨rfl,rfl⟩
  rcases t with _ | ⟨x,u⟩
  ·have hcv:=conv_str wr _ A c d (HJ.out.1.1.bytes (by simp at hdt;omega)).lies
   have HD:=zh (show l=d by have:=HJ.out.2.2;rwa [List.append_nil]at this)
   go_wp2_with fail
   go_ret;refine⟨(HK0.out.weaken (T:= [r]) (by simp)).trans HJ.out.2.1 (fun _ hx _=>hx), ?_,HJ.out.1.2⟩;rw[HD.out];rfl
  ·have hgt:0 < (x::u).length:=by simp
   have hx8:=x.toNat_lt;have hwx:IntKind.u8.wrap (x.toNat:Int)=(x.toNat:Int):=IntWalk.u8_in _ ⟨by omega,by omega⟩
   go_wp2_with fail
   refine(pvNum1_some HJ.out.1.2 (rdN_cons x u)).mono ?_;rintro e w3 ⟨hk3,rfl,hrd⟩;have HA:=zh (And.intro (own_keep HJ.out.1.1 hk3 (fun g hg hm=>by have:=(HJ.out.1.1.lt g hg).1;have:=HRL.out;have:=HK0.out.size;simp at hm;omega)) (And.intro hrd (HJ.out.2.1.trans hk3 (fun _ hx _=>hx))));have hs3:=hk3.size;clear hk3 hrd c0;obtain⟨Wb,hWb⟩:∃Wb,w3.alloc (.cells #[.int .u8 (x.toNat:Nat)] 5)=Wb:=⟨_,rfl⟩;have kb:Keeps w3 Wb []:=by rw[←hWb];exact Keeps.alloc _ _
   have rb:Bytes Wb Wb.heap.size (.slice (some ⟨w3.heap.size,0,none⟩) 1 1) [x]:=by rw[←hWb];exact byte_new w3 x
   have HA2:=zh (And.intro (own_keep HA.out.1 kb (by simp)) (And.intro rb (And.intro (HA.out.2.1.keep kb (by simp)) (HA.out.2.2.then_ kb))));have hbs:W0.heap.size≤Wb.heap.size:=HA2.out.2.2.2.size;clear kb rb
   go_wp2_with (at_builtin;refine Hid.out ?_)
   refine zh ?_;refine wpList_append_bytes _ rfl (.tmp 8) (.tmp 12) rfl W0.heap.size (.slice A d.length c) (.slice (some ⟨w3.heap.size,0,none⟩) 1 1) d [x] rfl rfl HA2.out.1 HA2.out.2.1 (by simp at hdt ⊢;omega) hbs ?_;intro A7 c7 w7 l7 E7 hl7 ho7 hk7 hb7;have hfar:∀g∈(Value.slice A d.length c).ownBlock.toList,W0.heap.size≤g:=fun g hg=>(HA2.out.1.lt g (by simpa using hg)).1
   have HR7:=zh (HA2.out.2.2.1.far hk7 (fun g hg=>by have:=hfar g hg;have:=HRL.out;have:=HK0.out.size;omega));have HK7:=zh (HA2.out.2.2.2.trans hk7 (fun g hg hlt=>absurd (hfar g hg) (by omega)));have HO7:=zh ho7;have HL7:=zh E7.out;clear ho7 hk7 hb7 hfar hWb E7
   go_wp2_with fail
   refine⟨⟨l7,u,zh ⟨⟨HO7.out,HR7.out⟩,HK7.out, ?_⟩,by simp at hl7 hdt ⊢;omega⟩, ?_⟩
   ·rw[HL7.out,List.append_assoc]
    exact HJ.out.2.2
   ·rw[HR7.out.rdLen,HJ.out.1.2.rdLen]
    simp

theorem pub_bits:∀f:Fin 16,decide (0 < bits BinOp.and IntKind.i64 ((f.val:Nat):Int) 8)=pkBit f.val 8∧decide (0 < bits BinOp.and IntKind.i64 ((f.val:Nat):Int) 1)=pkBit f.val 1∧bits BinOp.and IntKind.i64 (((f.val:Nat):Int) / 2) 3=((f.val / 2 % 4:Nat):Int):=by decide+kernel
/-- What is known of a reading: the reader's box, the result's, the packet's. -/
structure RdSt (w W:World)(base r A R G:Nat)(X:Array Value)(l:List UInt8):Prop where
 k:Keeps w W [r]
 b:Row W A 74 #[.pointer (some ⟨r,0,none⟩)]
 rr:Row W R 29 zP0
 g:Row W G 29 X
 rd:Rd W base r l
 o:r < A∧A < R∧R < G∧w.heap.size≤A
section
variable {w W W' :World} {base r A R G:Nat} {X:Array Value} {l t:List UInt8}
theorem RdSt.put (h:RdSt w W base r A R G X l)(i:Nat)(v:Value):RdSt w (W.setCell ⟨G,i,none⟩ v) base r A R G (X.setIfInBounds i v) l:=by
 have hk:Keeps W (W.setCell ⟨G,i,none⟩ v) [G]:=Keeps.setCell _ _ _;obtain⟨o1,o2,o3,o4⟩:=h.o;exact⟨h.k.trans hk (fun x hx hlt=>by simp at hx;omega),h.b.keep hk (by simp;omega),h.rr.keep hk (by simp;omega),h.g.store i v,h.rd.far hk (fun x hx=>by simp at hx;omega),h.o⟩
theorem RdSt.read (h:RdSt w W base r A R G X l)(hk:Keeps W W' [r])(hr:Rd W' base r t):RdSt w W' base r A R G X t:=by
 obtain⟨o1,o2,o3,o4⟩:=h.o;exact⟨h.k.trans hk (fun _ hx _=>hx),h.b.keep hk (by simp;omega),h.rr.keep hk (by simp;omega),h.g.keep hk (by simp;omega),hr,h.o⟩
theorem RdSt.keeps (h:RdSt w W base r A R G X l)(hk:Keeps W W' []):RdSt w W' base r A R G X l:=
 h.read (hk.weaken (by simp)) (h.rd.keep hk (by simp))
end
set_option maxRecDepth 100000 in
set_option maxHeartbeats 4000000 in
theorem pkRd3_any (w:World)(base r:Nat)(f:Nat)(l:List UInt8)(h:Rd w base r l)(hl:l.length≤100000)(hf:f < 16):
  Calls Tryz.prog 137 #[.agg #[.pointer (some ⟨r,0,none⟩)],.int .i64 (f:Nat)] w (PkRdPost w base r (rdPub f l)):=by
 obtain⟨e8,e1,e3⟩:decide (0 < bits BinOp.and IntKind.i64 ((f:Nat):Int) 8)=pkBit f 8∧decide (0 < bits BinOp.and IntKind.i64 ((f:Nat):Int) 1)=pkBit f 1∧bits BinOp.and IntKind.i64 (((f:Nat):Int) / 2) 3=((f / 2 % 4:Nat):Int):=pub_bits ⟨f,hf⟩;have HD:=zh (show rdPub f l=(rdTx l).bind fun t=>if 0 < f / 2 % 4 then(rdN 2 t.2).bind fun i=>some ({pkZ with k:=3,dup:=pkBit f 8,ret:=pkBit f 1,q:=(f / 2 % 4:Nat),t:=t.1,id:=(i.1:Int),b:=i.2}, [])
  else some ({pkZ with k:=3,dup:=pkBit f 8,ret:=pkBit f 1,q:=(f / 2 % 4:Nat),t:=t.1,b:=t.2}, [])from rfl)
 generalize pkBit f 8=B8 at e8 HD
 generalize pkBit f 1=B1 at e1 HD
 generalize f / 2 % 4=Q at e3 HD
 have HNR:=zh h.lt;obtain⟨W0,hW0⟩:∃W0,w.alloc (.cells #[.pointer (some ⟨r,0,none⟩)] 74)=W0:=⟨_,rfl⟩;obtain⟨W1,hW1⟩:∃W1,W0.alloc (.cells zP0 29)=W1:=⟨_,rfl⟩;have k0:Keeps w W0 []:=by rw[←hW0];exact Keeps.alloc _ _
 have k1:Keeps W0 W1 []:=by rw[←hW1];exact Keeps.alloc _ _
 have s0:W0.heap.size=w.heap.size+1:=by rw[←hW0];simp
 have s1:W1.heap.size=w.heap.size+2:=by rw[←hW1];simp[s0]
 have HB:=zh (show Row W1 w.heap.size 74 #[.pointer (some ⟨r,0,none⟩)]from(show Row W0 w.heap.size 74 #[.pointer (some ⟨r,0,none⟩)]by rw[←hW0];exact Row.new _ _ _).keeps k1);have HR:=zh (show Row W1 W0.heap.size 29 zP0 by rw[←hW1];exact Row.new _ _ _);have HK:=zh (k0.then_ k1);have HS:=zh (And.intro s0 s1);have HRD:=zh ((h.keep k0 (by simp)).keep k1 (by simp));have c0:=HB.out.cell 0;simp only[zga,zgz]at c0;clear k0 k1 s0 s1 h hf
 rcases hE:rdTx l with _ | ⟨s,V1⟩
 ·have HT:=zh (show rdPub f l=none by rw[HD.out,hE];rfl)
  have HE:=zh hE;clear hE
  go_enter Tryz.func137,Tryz.ntmps137
  go_wp2_with fail
  refine(pvTxt_none HRD.out HE.out).mono ?_;rintro e w3 ⟨hk,rfl⟩;exact⟨rfl,(HK.out.weaken (T:= [r]) (by simp)).trans hk (fun _ hx _=>hx),by rw[HT.out]⟩
 ·have HE:=zh hE
  have HLV1:=zh (show V1.length≤100000 by have:=(rdTx_sound hE).2.2;omega);have HD2:=zh (HD.out.trans (by rw[hE]));clear hE
  go_enter Tryz.func137,Tryz.ntmps137
  go_wp2_with fail
  refine(pvTxt_some HRD.out HE.out).mono ?_;rintro e w3 ⟨hk,rfl,hrd⟩;unfold strV;have HK3:=zh hk;have HRD3:=zh hrd;clear hk hrd hW0 hW1 c0;obtain⟨W4,hW4⟩:∃W4,w3.alloc (.cells zP0 29)=W4:=⟨_,rfl⟩
  go_wp2_with (refine wpList_store_new rfl (.tmp 5) (.tmp 17) rfl (zP 0 B8 B1 (Q:Nat) s [] 0 [] false 0 false [] [] 0 false false false [] [] false 0 (.slice none 0 0) (.slice none 0 0) (.slice none 0 0)) zP0 w3 hW4.symm (by kernel_rfl) rfl (by simp[Value.oneCell']) rfl rfl ?_;intro w5 hw5)
  refine zh ?_;have q9:Row w5 w3.heap.size 29 (zP 0 B8 B1 (Q:Nat) s [] 0 [] false 0 false [] [] 0 false false false [] [] false 0 (.slice none 0 0) (.slice none 0 0) (.slice none 0 0)):=by rw[←hw5];exact Row.new _ _ _
  have k9:Keeps w3 w5 []:=by rw[←hw5];exact Keeps.alloc _ _
  obtain⟨G,hG⟩:∃G,w3.heap.size=G:=⟨_,rfl⟩;have hGs:w.heap.size+2≤G:=by have:=HK3.out.size;have:=HS.out.2;omega
  have HK5:=zh (show Keeps W1 w5 [r]from HK3.out.trans k9 (by simp));rw[hG]at q9 ⊢
  have ST:=zh (show RdSt w w5 base r w.heap.size W0.heap.size G (zP 0 B8 B1 (Q:Nat) s [] 0 [] false 0 false [] [] 0 false false false [] [] false 0 (.slice none 0 0) (.slice none 0 0) (.slice none 0 0)) V1 from⟨(HK.out.weaken (T:= [r]) (by simp)).trans HK5.out (fun _ hx _=>hx),HB.out.keep HK5.out (by have:=HNR.out;simp;omega),HR.out.keep HK5.out (by have:=HNR.out;have:=HS.out;simp;omega),q9,HRD3.out.keep k9 (by simp),by have:=HNR.out;have:=HS.out;omega⟩);clear k9 hW4 q9 hw5 hG hGs HK5 HRD3 HK3 HB HR HRD HK;have g3:=ST.out.g.cell 3;simp only[zga,zgz,zgs]at g3
  by_cases hq:0 < Q
  ·rcases hE2:rdN 2 V1 with _ | ⟨n,V2⟩
   ·have HT:=zh (show rdPub f l=none by rw[HD2.out,Option.bind_some,if_pos hq];simp only;rw[hE2];rfl)
    have HE2:=zh hE2;have c0:=ST.out.b.cell 0;simp only[zga,zgz]at c0;clear hE2
    go_wp2_with fail
    refine(pvNum_none (k' :=2) ST.out.rd HE2.out (by omega) (by omega) rfl).mono ?_;rintro e w6 ⟨hk,rfl⟩;exact⟨rfl,ST.out.k.trans hk (fun _ hx _=>hx),by rw[HT.out]⟩
   ·have HT:=zh (show rdPub f l=some ({pkZ with k:=3,dup:=B8,ret:=B1,q:=(Q:Nat),t:=s,id:=(n:Int),b:=V2}, [])by rw[HD2.out,Option.bind_some,if_pos hq];simp only;rw[hE2];rfl)
    have HLV:=zh (show V2.length≤100000 by have:=(rdN_sound hE2).2.2;have:=HLV1.out;omega);have HE2:=zh hE2;have c0:=ST.out.b.cell 0;simp only[zga,zgz]at c0;clear hE2
    go_wp2_with fail
    refine(pvNum2_some ST.out.rd HE2.out).mono ?_;rintro e w6 ⟨hk,rfl,hrd⟩;have ST2:=zh (ST.out.read hk hrd);have f6:=ST2.out.g.frozen 6;have g6:=ST2.out.g.cell 6;simp only[zga,zgz,zgs]at g6;clear c0 hk hrd g3 ST hq
    go_upto_region 4 with fail
    obtain⟨W7,hW7⟩:∃W7,w6.setCell ⟨G,6,none⟩ (.int .i64 (n:Nat))=W7:=⟨_,rfl⟩;have ST:=zh (show RdSt w W7 base r w.heap.size W0.heap.size G (zP 0 B8 B1 (Q:Nat) s [] (n:Nat) [] false 0 false [] [] 0 false false false [] [] false 0 (.slice none 0 0) (.slice none 0 0) (.slice none 0 0)) V2 by rw[←hW7];exact ST2.out.put 6 _);rw[hW7];clear hW7 f6 g6 ST2;have c0:=ST.out.b.cell 0;simp only[zga,zgz]at c0
    go_wp2_with fail
    refine(pkRest_any _ base r V2 ST.out.rd HLV.out).mono ?_;rintro e w8 ⟨hk8,rfl,hrd8⟩;have ST2:=zh (ST.out.read hk8 hrd8);have f5:=ST2.out.g.frozen 5;have g5:=ST2.out.g.cell 5;simp only[zga,zgz,zgs]at g5;clear c0 hk8 hrd8
    go_upto_region 5 with fail
    obtain⟨W9,hW9⟩:∃W9,w8.setCell ⟨G,5,none⟩ (.string ⟨V2.toArray⟩)=W9:=⟨_,rfl⟩;have ST3:=zh (show RdSt w W9 base r w.heap.size W0.heap.size G (zP 0 B8 B1 (Q:Nat) s V2 (n:Nat) [] false 0 false [] [] 0 false false false [] [] false 0 (.slice none 0 0) (.slice none 0 0) (.slice none 0 0)) []by rw[←hW9];exact ST2.out.put 5 _);rw[hW9];clear hW9 f5 g5;refine wp_region_line KeepsAll _ 1 rfl (by kernel_rfl) (by kernel_rfl) (fun _=>Keeps.refl _ _) (fun _ _ _ h k=>h.trans k (by simp)) ?_;simp only[zts,ztz,zds,zdz];refine lw 29 (.tmp 5) (G) ((zL 0 B8 B1 (Q:Nat) s V2 (n:Nat) [] false 0 false [] [] 0 false false false [] [] false 0 (.slice none 0 0) (.slice none 0 0) (.slice none 0 0))) Tryz.underlying29 (fun W hW=>range_row (ST3.out.g.keeps hW)) ?_;refine loose_nil (fun W vals hW hkn=> ?_);simp only[addEnt,knowsAll]at hkn
    try simp only[and_true]at hkn
    simp only[addEnt,fill,Act.put,zsa,zsc,zsz];clear hkn;have ST4:=zh (ST3.out.keeps hW);clear hW;refine wpList_store_row rfl (.tmp 4) (.tmp 27) 29 rfl W0.heap.size (zP 0 B8 B1 (Q:Nat) s V2 (n:Nat) [] false 0 false [] [] 0 false false false [] [] false 0 (.slice none 0 0) (.slice none 0 0) (.slice none 0 0)) zP0 ST4.out.rr (by kernel_rfl) rfl (by simp[Value.oneCell']) rfl rfl ?_;intro w7 r7 k7;have HR7:=zh r7;have HRD7:=zh (ST4.out.rd.far k7 (fun x hx=>by have:=ST4.out.o;simp at hx;omega));have HK7:=zh (ST4.out.k.trans k7 (fun x hx hlt=>by have:=ST4.out.o;simp at hx;omega));clear r7 k7
    go_wp2_with fail
    obtain⟨d,hu,hd⟩:=undPack;refine bodyPost_ret (results_row (s:=4) (cs:=(zL 0 B8 B1 (Q:Nat) s V2 (n:Nat) [] false 0 false [] [] 0 false false false [] [] false 0 (.slice none 0 0) (.slice none 0 0) (.slice none 0 0))) rfl rfl (range_row HR7.out) hu hd (by kernel_rfl)) rfl ⟨HK7.out, ?_⟩;rw[HT.out];exact⟨_,_,_,rfl,PkT.empty rfl rfl rfl,HRD7.out⟩
  ·have HT:=zh (show rdPub f l=some ({pkZ with k:=3,dup:=B8,ret:=B1,q:=(Q:Nat),t:=s,b:=V1}, [])by rw[HD2.out,Option.bind_some,if_neg hq])
   have HLV:=HLV1
   go_upto_region 4 with fail
   clear g3 hq;have c0:=ST.out.b.cell 0;simp only[zga,zgz]at c0
   go_wp2_with fail
   refine(pkRest_any _ base r V1 ST.out.rd HLV.out).mono ?_;rintro e w8 ⟨hk8,rfl,hrd8⟩;have ST2:=zh (ST.out.read hk8 hrd8);have f5:=ST2.out.g.frozen 5;have g5:=ST2.out.g.cell 5;simp only[zga,zgz,zgs]at g5;clear c0 hk8 hrd8
   go_upto_region 5 with fail
   obtain⟨W9,hW9⟩:∃W9,w8.setCell ⟨G,5,none⟩ (.string ⟨V1.toArray⟩)=W9:=⟨_,rfl⟩;have ST3:=zh (show RdSt w W9 base r w.heap.size W0.heap.size G (zP 0 B8 B1 (Q:Nat) s V1 0 [] false 0 false [] [] 0 false false false [] [] false 0 (.slice none 0 0) (.slice none 0 0) (.slice none 0 0)) []by rw[←hW9];exact ST2.out.put 5 _);rw[hW9];clear hW9 f5 g5;refine wp_region_line KeepsAll _ 1 rfl (by kernel_rfl) (by kernel_rfl) (fun _=>Keeps.refl _ _) (fun _ _ _ h k=>h.trans k (by simp)) ?_;simp only[zts,ztz,zds,zdz];refine lw 29 (.tmp 5) (G) ((zL 0 B8 B1 (Q:Nat) s V1 0 [] false 0 false [] [] 0 false false false [] [] false 0 (.slice none 0 0) (.slice none 0 0) (.slice none 0 0))) Tryz.underlying29 (fun W hW=>range_row (ST3.out.g.keeps hW)) ?_;refine loose_nil (fun W vals hW hkn=> ?_);simp only[addEnt,knowsAll]at hkn
   try simp only[and_true]at hkn
   simp only[addEnt,fill,Act.put,zsa,zsc,zsz];clear hkn;have ST4:=zh (ST3.out.keeps hW);clear hW;refine wpList_store_row rfl (.tmp 4) (.tmp 27) 29 rfl W0.heap.size (zP 0 B8 B1 (Q:Nat) s V1 0 [] false 0 false [] [] 0 false false false [] [] false 0 (.slice none 0 0) (.slice none 0 0) (.slice none 0 0)) zP0 ST4.out.rr (by kernel_rfl) rfl (by simp[Value.oneCell']) rfl rfl ?_;intro w7 r7 k7;have HR7:=zh r7;have HRD7:=zh (ST4.out.rd.far k7 (fun x hx=>by have:=ST4.out.o;simp at hx;omega));have HK7:=zh (ST4.out.k.trans k7 (fun x hx hlt=>by have:=ST4.out.o;simp at hx;omega));clear r7 k7
   go_wp2_with fail
   obtain⟨d,hu,hd⟩:=undPack;refine bodyPost_ret (results_row (s:=4) (cs:=(zL 0 B8 B1 (Q:Nat) s V1 0 [] false 0 false [] [] 0 false false false [] [] false 0 (.slice none 0 0) (.slice none 0 0) (.slice none 0 0))) rfl rfl (range_row HR7.out) hu hd (by kernel_rfl)) rfl ⟨HK7.out, ?_⟩;rw[HT.out];exact⟨_,_,_,rfl,PkT.empty rfl rfl rfl,HRD7.out⟩
end Go.Proofs.YtahbikfbjenfpaaGreatDoor
