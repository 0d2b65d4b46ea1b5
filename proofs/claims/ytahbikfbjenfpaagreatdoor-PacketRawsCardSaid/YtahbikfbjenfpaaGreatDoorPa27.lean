/- Package packet: a wish, a code, all that is left: read. Package packet: how kinds that have an ID are read. Package packet: how kinds are read. -/
import Derived.Test.YtahbikfbjenfpaaGreatDoorPa26

namespace Go.Proofs.YtahbikfbjenfpaaGreatDoor
open Go.RowKit

def rdL2 (V V1:List UInt8)(k:Nat):List UInt8:=if k=1 then V else V1
theorem undWant:∃d,Tryz.prog.underlying 50=some d∧d.isRow=true:=⟨_,Tryz.underlying50,rfl⟩
set_option maxRecDepth 100000 in
set_option maxHeartbeats 400000 in
theorem tkC_any (w:World)(base r bx:Nat)(l:List UInt8)(h:Rd w base r l)(hb:Row w bx 74 #[.pointer (some ⟨r,0,none⟩)]):
  Calls Tryz.prog 79 #[.pointer (some ⟨bx,0,none⟩)] w (PvRd w base r ((rdCode l).map fun x=>(.int .i64 x.1,x.2))):=by
 have c0:=hb.cell 0;simp only[zga,zgz]at c0;have H:=zh h;clear h hb
 rcases hE:rdN 1 l with _ | ⟨n,t⟩
 ·have HT:=zh (show rdCode l=none by unfold rdCode;rw[hE];rfl)
  have HE:=zh hE;clear hE
  go_enter Tryz.func79,Tryz.ntmps79
  go_wp2_with fail
  refine(pvNum_none (k' :=1) H.out HE.out (by omega) (by omega) rfl).mono ?_;rintro e w1 ⟨hk,rfl⟩;have HK:=zh hk;refine⟨rfl,HK.out, ?_⟩;rw[HT.out];rfl
 ·have HT:=zh (show rdCode l=some ((n:Int),t)by unfold rdCode;rw[hE];rfl)
  have HE:=zh hE;clear hE
  go_enter Tryz.func79,Tryz.ntmps79
  go_wp2_with fail
  refine(pvNum1_some H.out HE.out).mono ?_;rintro e w1 ⟨hk,rfl,hrd⟩;have HK:=zh (And.intro hk hrd);clear hk hrd c0
  go_wp2_with fail
  go_ret;refine⟨HK.out.1, ?_⟩;rw[HT.out];exact⟨rfl,HK.out.2⟩
set_option maxRecDepth 100000 in
set_option maxHeartbeats 2000000 in
theorem tkW_any (w:World)(base r bx:Nat)(l:List UInt8)(h:Rd w base r l)(hb:Row w bx 74 #[.pointer (some ⟨r,0,none⟩)]):
  Calls Tryz.prog 70 #[.pointer (some ⟨bx,0,none⟩)] w (PvRd w base r ((rdWant l).map fun x=>(.agg #[.string ⟨x.1.1.toArray⟩,.int .i64 x.1.2],x.2))):=by
 have HNE:=zh (show bx≠r by
  rintro rfl;obtain⟨x,h1⟩:=h.row;exact Row.ne_type hb h1 (by decide) rfl)
 obtain⟨W0,hW0⟩:∃W0,w.alloc (.cells #[.string ⟨#[]⟩,.int .i64 0] 50)=W0:=⟨_,rfl⟩;have k0:Keeps w W0 []:=by rw[←hW0];exact Keeps.alloc _ _
 have HR:=zh (show Row W0 w.heap.size 50 #[.string ⟨#[]⟩,.int .i64 0]by rw[←hW0];exact Row.new _ _ _);have HB:=zh (hb.keeps k0);have HRD:=zh (h.keep k0 (by simp));have HK:=zh k0;have HL:=zh h.lt;have MI:=fun(W:World) (hC:rdC r W0 W)=>(HB.out.keep (show Keeps W0 W [r]from hC) (by have:=HNE.out;simpa using this)).cell 0
 simp only[zga,zgz]at MI;clear k0 h hb
 go_enter Tryz.func70,Tryz.ntmps70
 go_upto_region 1 with fail
 clear hW0
 rcases hE1:rdTx l with _ | ⟨s1,V1⟩
 ·skip
  have HNO:=zh (show rdWant l=none by unfold rdWant;rw[hE1];rfl);have E1:=zh hE1;clear hE1;have LH:LightK [⟨1, [], []⟩] (rdC r) (rdA base r l (rdL2 l l)):=rdLight;refine wp_region_writersD [⟨1, [], []⟩] (rdC r) (rdA base r l (rdL2 l l)) _ 1 [] _ rfl LH (by kernel_rfl) rfl (by kernel_rfl) ?_;apply loosed_is 0 _ rfl (by decide)
  ·intro W vals hW hkn
   have hC:=hW.c;simp only[knowsK]at hkn
   try simp only[and_true]at hkn
   clear hkn;have m:=MI W hC;refine⟨?_⟩;simp only[fill];go_simp
   first | exact⟨LH.stp (Keeps.refl _ _),rfl⟩ | exact⟨LH.stp (Keeps.alloc _ _),rfl⟩
  simp only[addEnt];refine loosed_dies rfl (fun W vals hW hkn=> ?_) ?_
  ·have hC:=hW.c
   simp only[knowsK]at hkn
   try simp only[and_true]at hkn
   have hr:Rd W base r l:=(hW.a ⟨1, [], []⟩ (by simp) (.inl rfl)).1 HRD.out;clear hkn;simp only[fill,Act.put,zsa,zsc,zsz];refine⟨rfl,71, #[.agg #[.pointer (some ⟨r,0,none⟩)]],W,by go_simp, ?_⟩;refine(pvTxt_none hr E1.out).mono ?_;rintro e w9 ⟨hk9,rfl⟩;refine⟨_,rfl,fun a' hd' ht' => ?_⟩;obtain⟨t',d'⟩:=a';simp only at hd';subst hd';simp only[Exit.then];exact⟨rfl,((HK.out.weaken (T:= [r]) (by simp)).trans (show Keeps W0 _ [r]from hC) (fun _ hx _=>hx)).trans hk9 (fun _ hx _=>hx),by rw[HNO.out];rfl⟩
  simp only[addEnt];apply loosed_is 2 _ rfl (by decide)
  ·intro W vals hW hkn
   have hC:=hW.c;simp only[knowsK]at hkn
   try simp only[and_true]at hkn
   clear hkn;have m:=MI W hC;refine⟨?_⟩;simp only[fill];go_simp
   first | exact⟨LH.stp (Keeps.refl _ _),rfl⟩ | exact⟨LH.stp (Keeps.alloc _ _),rfl⟩
  simp only[addEnt];refine loosed_skip 3 rfl (by decide) (by kernel_rfl) ?_;simp only[addEnt];refine loosed_skip 4 rfl (by decide) (by kernel_rfl) ?_;simp only[addEnt];refine loosed_skip 5 rfl (by decide) (by kernel_rfl) ?_;simp only[addEnt];exact loosed_nil
 have E1:=zh hE1;have lE1:V1.length < l.length:=by
  have:=(rdTx_sound hE1).2.2;omega
 clear hE1
 rcases hE2:rdN 1 V1 with _ | ⟨n2,V2⟩
 ·skip
  have HNO:=zh (show rdWant l=none by unfold rdWant;rw[E1.out];simp only[Option.bind_some];rw[hE2];rfl);have E2:=zh hE2;clear hE2;have LH:LightK [⟨1, [], []⟩,⟨3, [], []⟩] (rdC r) (rdA base r V1 (rdL2 l V1)):=rdLight;refine wp_region_writersD [⟨1, [], []⟩,⟨3, [], []⟩] (rdC r) (rdA base r V1 (rdL2 l V1)) _ 3 [3] _ rfl LH (by kernel_rfl) rfl (by kernel_rfl) ?_;apply loosed_is 0 _ rfl (by decide)
  ·intro W vals hW hkn
   have hC:=hW.c;simp only[knowsK]at hkn
   try simp only[and_true]at hkn
   clear hkn;have m:=MI W hC;refine⟨?_⟩;simp only[fill];go_simp
   first | exact⟨LH.stp (Keeps.refl _ _),rfl⟩ | exact⟨LH.stp (Keeps.alloc _ _),rfl⟩
  simp only[addEnt];refine loosed_had 1 [] (fun _ v W' =>v= .string ⟨s1.toArray⟩∧Rd W' base r V1) rfl (by decide) (by kernel_rfl) (fun W vals hW hkn φ' hφ=> ?_) ?_
  ·have hC:=hW.c
   simp only[knowsK]at hkn
   try simp only[and_true]at hkn
   have hr:Rd W base r l:=(hW.a ⟨1, [], []⟩ (by simp) (.inl rfl)).1 HRD.out;clear hkn;refine⟨?_⟩;simp only[fill];go_simp;exact loosek_writes LH hφ ((pvTxt_some hr E1.out).mono (by rintro e w9 ⟨h1,h2,h3⟩;exact⟨_,h2,rdStp hr h1 (by simp[rdL2] <;> omega) (by simp[rdL2] <;> omega),rfl,h3⟩))
  simp only[addEnt];apply loosed_is 2 _ rfl (by decide)
  ·intro W vals hW hkn
   have hC:=hW.c;simp only[knowsK]at hkn
   try simp only[and_true]at hkn
   clear hkn;have m:=MI W hC;refine⟨?_⟩;simp only[fill];go_simp
   first | exact⟨LH.stp (Keeps.refl _ _),rfl⟩ | exact⟨LH.stp (Keeps.alloc _ _),rfl⟩
  simp only[addEnt];refine loosed_dies rfl (fun W vals hW hkn=> ?_) ?_
  ·have hC:=hW.c
   simp only[knowsK]at hkn
   try simp only[and_true]at hkn
   obtain⟨W1,h0,h1,_,hrd⟩:=hkn (by decide);have hr:Rd W base r V1:=(h1.a ⟨3, [], []⟩ (by simp) (.inr (.inr (.inl rfl)))).1 hrd;clear hkn;simp only[fill,Act.put,zsa,zsc,zsz];refine⟨rfl,58, #[.agg #[.pointer (some ⟨r,0,none⟩)],.int .i64 1],W,by go_simp, ?_⟩;refine(pvNum_none (k' :=1) hr E2.out (by omega) (by omega) rfl).mono ?_;rintro e w9 ⟨hk9,rfl⟩;refine⟨_,rfl,fun a' hd' ht' => ?_⟩;obtain⟨t',d'⟩:=a';simp only at hd';subst hd';simp only[Exit.then];exact⟨rfl,((HK.out.weaken (T:= [r]) (by simp)).trans (show Keeps W0 _ [r]from hC) (fun _ hx _=>hx)).trans hk9 (fun _ hx _=>hx),by rw[HNO.out];rfl⟩
  simp only[addEnt];refine loosed_skip 4 rfl (by decide) (by kernel_rfl) ?_;simp only[addEnt];refine loosed_skip 5 rfl (by decide) (by kernel_rfl) ?_;simp only[addEnt];exact loosed_nil
 have E2:=zh hE2;have lE2:V2.length < V1.length:=by
  have:=(rdN_sound hE2).2.2;omega
 have HT:=zh (show rdWant l=some ((s1,(n2:Int)),V2)by unfold rdWant;rw[E1.out];simp only[Option.bind_some];rw[hE2];rfl);clear hE2;have LH:LightK [⟨1, [], []⟩,⟨3, [], []⟩] (rdC r) (rdA base r V2 (rdL2 l V1)):=rdLight;refine wp_region_writersL [⟨1, [], []⟩,⟨3, [], []⟩] (rdC r) (rdA base r V2 (rdL2 l V1)) _ 5 LH (by kernel_rfl) rfl (by kernel_rfl) ?_;simp only[zts,ztz,zds,zdz];apply loosek_is 0 _ rfl
 ·intro W vals hW hkn
  have hC:=hW.c;simp only[knowsK]at hkn
  try simp only[and_true]at hkn
  clear hkn;have m:=MI W hC;refine⟨?_⟩;simp only[fill];go_simp
  first | exact⟨LH.stp (Keeps.refl _ _),rfl⟩ | exact⟨LH.stp (Keeps.alloc _ _),rfl⟩
 simp only[addEnt];refine loosek_had 1 [] (fun _ v W' =>v= .string ⟨s1.toArray⟩∧Rd W' base r V1) rfl (by kernel_rfl) (fun W vals hW hkn φ' hφ=> ?_) ?_
 ·have hC:=hW.c
  simp only[knowsK]at hkn
  try simp only[and_true]at hkn
  have hr:Rd W base r l:=(hW.a ⟨1, [], []⟩ (by simp) (.inl rfl)).1 HRD.out;clear hkn;refine⟨?_⟩;simp only[fill];go_simp;exact loosek_writes LH hφ ((pvTxt_some hr E1.out).mono (by rintro e w9 ⟨h1,h2,h3⟩;exact⟨_,h2,rdStp hr h1 (by simp[rdL2] <;> omega) (by simp[rdL2] <;> omega),rfl,h3⟩))
 simp only[addEnt];apply loosek_is 2 _ rfl
 ·intro W vals hW hkn
  have hC:=hW.c;simp only[knowsK]at hkn
  try simp only[and_true]at hkn
  clear hkn;have m:=MI W hC;refine⟨?_⟩;simp only[fill];go_simp
  first | exact⟨LH.stp (Keeps.refl _ _),rfl⟩ | exact⟨LH.stp (Keeps.alloc _ _),rfl⟩
 simp only[addEnt];refine loosek_had 3 [3] (fun _ v W' =>v= .int .i64 (n2:Nat)∧Rd W' base r V2) rfl (by kernel_rfl) (fun W vals hW hkn φ' hφ=> ?_) ?_
 ·have hC:=hW.c
  simp only[knowsK]at hkn
  try simp only[and_true]at hkn
  obtain⟨W1,h0,h1,_,hrd⟩:=hkn (by decide);have hr:Rd W base r V1:=(h1.a ⟨3, [], []⟩ (by simp) (.inr (.inr (.inl rfl)))).1 hrd;clear hkn;refine⟨?_⟩;simp only[fill];go_simp;exact loosek_writes LH hφ ((pvNum1_some hr E2.out).mono (by rintro e w9 ⟨h1,h2,h3⟩;exact⟨_,h2,rdStp hr h1 (by simp[rdL2] <;> omega) (by simp[rdL2] <;> omega),rfl,h3⟩))
 simp only[addEnt];refine loosek_has 4 (fun v _=>v= .agg #[.string ⟨s1.toArray⟩,.int .i64 (n2:Nat)]) rfl (fun W vals hW hkn φ' hφ=> ?_) ?_
 ·have hC:=hW.c
  simp only[knowsK]at hkn
  try simp only[and_true]at hkn
  obtain⟨q5,q3⟩:=hkn;obtain⟨_,_,_,v5,_⟩:=q5 (by decide);obtain⟨_,_,_,v3,_⟩:=q3 (by decide);clear q5 q3;refine⟨?_⟩;simp only[fill];go_simp;exact⟨LH.stp (Keeps.refl _ _),hφ.out _ _ rfl⟩
 simp only[addEnt];refine loosek_nil (fun W9 vals hW hkn=> ?_);simp only[knowsAllK]at hkn
 try simp only[and_true]at hkn
 simp only[fill,Act.put,zsa,zsc,zsz];obtain⟨⟨_,_,_,v6⟩,⟨W1,_,p1,_,hrd⟩,_⟩:=hkn;have HRD9:=zh (show Rd W9 base r V2 from(p1.a ⟨3, [], []⟩ (by simp) (.inl rfl)).2 hrd);have hC9:Keeps W0 W9 [r]:=hW;rw[v6];have HR9:=zh (HR.out.keep hC9 (by have:=HL.out;simp;omega));have HK9:=zh ((HK.out.weaken (T:= [r]) (by simp)).trans hC9 (fun _ hx _=>hx));clear p1 hrd hC9 hW v6 MI LH;refine wpList_store_row rfl (.tmp 1) (.tmp 6) 50 rfl w.heap.size #[.string ⟨s1.toArray⟩,.int .i64 (n2:Nat)] #[.string ⟨#[]⟩,.int .i64 0] HR9.out (by kernel_rfl) rfl (by simp[Value.oneCell']) rfl rfl ?_;intro w7 r7 k7;have HR7:=zh r7;have HRD7:=zh (HRD9.out.far k7 (fun x hx=>by have:=HL.out;simp at hx;omega));have HK7:=zh (HK9.out.trans k7 (fun x hx hlt=>by simp at hx;omega));clear r7 k7
 go_wp2_with fail
 obtain⟨d,hu,hd⟩:=undWant;refine bodyPost_ret (results_row (s:=1) (cs:= [.string ⟨s1.toArray⟩,.int .i64 (n2:Nat)]) rfl rfl (range_row HR7.out) hu hd (by kernel_rfl)) rfl ⟨HK7.out, ?_⟩;rw[HT.out];exact⟨rfl,HRD7.out⟩

abbrev pvStop:Ending:= .panicked [{v:= .iface 67 (.agg #[]),recovered:=false}]
/-- What reading a packet does. -/
def PkRdPost (w:World)(base r:Nat)(o:Option (Pk×List UInt8))(e:Ending)(w' :World):Prop:=Keeps w w' [r]∧match o with
 | some (p,t)=>∃sw sc sf,e= .returned (pkV {p with k:=0} sw sc sf)∧PkT w' p sw sc sf∧Rd w' base r t
 | none=>e=pvStop
/-- What reading a list does. -/
def InPost (w:World)(base r g:Nat)(id:Int)(o:Option (Pk×List UInt8))(e:Ending)(w' :World):Prop:=Keeps w w' [r,g]∧match o with
 | some (p,t)=>∃A1 n1 c1 A2 n2 c2 A3 n3 c3,e= .returned (.tuple #[])∧Row w' g 29 (zP 0 false false 0 [] [] id [] false 0 false [] [] 0 false false false [] [] false 0 (.slice A1 n1 c1) (.slice A2 n2 c2) (.slice A3 n3 c3))∧(p= {pkZ with k:=p.k,id:=id,wants:=p.wants,codes:=p.codes,fs:=p.fs}∧PkT w' p (.slice A1 n1 c1) (.slice A2 n2 c2) (.slice A3 n3 c3))∧Rd w' base r t
 | none=>e=pvStop
def rdListIn (k:Int)(id:Int)(l:List UInt8):Option (Pk×List UInt8):=
 if k=8 then(rdAll rdWant l.length l).bind fun az=>some ({pkZ with k:=k,id:=id,wants:=az}, [])
 else if k=9 then(rdAll rdCode l.length l).bind fun az=>some ({pkZ with k:=k,id:=id,codes:=az}, [])
 else if k=10 then(rdAll rdTx l.length l).bind fun az=>some ({pkZ with k:=k,id:=id,fs:=az}, [])
 else some ({pkZ with k:=k,id:=id},l)
theorem rdList_in (k:Int)(l:List UInt8):rdList k l=(rdN 2 l).bind fun i=>rdListIn k (i.1:Int) i.2:=rfl
set_option maxRecDepth 100000 in
theorem pkInAns_any (W:World)(base r g:Nat)(k id:Int)(l:List UInt8)(hk:k=4∨k=5∨k=6∨k=7∨k=11)(h:Rd W base r l)(hg:Row W g 29 (zP 0 false false 0 [] [] id [] false 0 false [] [] 0 false false false [] [] false 0 (.slice none 0 0) (.slice none 0 0) (.slice none 0 0))):
  Calls Tryz.prog 142 #[.agg #[.pointer (some ⟨r,0,none⟩)],.pointer (some ⟨g,0,none⟩)] W (InPost W base r g id (rdListIn k id l)):=by
 have e0:rdListIn k id l=some ({pkZ with k:=k,id:=id},l):=by unfold rdListIn;rw[if_neg (by omega),if_neg (by omega),if_neg (by omega)]
 rw[e0];have H:=zh (And.intro h hg);clear h hg
 go_enter Tryz.func142,Tryz.ntmps142
 go_wp2_with fail
 exact bodyPost_end (results_none rfl _ _ _) rfl ⟨(Keeps.alloc _ _).weaken (by simp),none,0,0,none,0,0,none,0,0,rfl,H.out.2.alloc _,⟨rfl,PkT.empty rfl rfl rfl⟩,H.out.1.keep (Keeps.alloc _ _) (by simp)⟩
set_option maxRecDepth 100000 in
set_option maxHeartbeats 1000000 in
theorem pkIn8_any (W:World)(base r g:Nat)(id:Int)(l:List UInt8)(h:Rd W base r l)(hrg:r < g)(hl:l.length≤100000)(hg:Row W g 29 (zP 0 false false 0 [] [] id [] false 0 false [] [] 0 false false false [] [] false 0 (.slice none 0 0) (.slice none 0 0) (.slice none 0 0))):
  Calls Tryz.prog 68 #[.agg #[.pointer (some ⟨r,0,none⟩)],.pointer (some ⟨g,0,none⟩)] W (InPost W base r g id (rdListIn 8 id l)):=by
 obtain⟨W0,hW0⟩:∃W0,W.alloc (.cells #[.pointer (some ⟨r,0,none⟩)] 74)=W0:=⟨_,rfl⟩;have k0:Keeps W W0 []:=by rw[←hW0];exact Keeps.alloc _ _
 have HB:=zh (show Row W0 W.heap.size 74 #[.pointer (some ⟨r,0,none⟩)]by rw[←hW0];exact Row.new _ _ _);have HRL:=zh h.lt;have HG:=zh (hg.keeps k0);have HGL:=zh (And.intro hg.lt hrg);have HK:=zh k0;have HA:=zh (allW_any W0 base r W.heap.size l (h.keep k0 (by simp)) hl (fun W2 t hW2 ht=>tkW_any W2 base r W.heap.size t ht (HB.out.keep hW2 (by have:=HRL.out;simp;omega))));have hlt:=HGL.out.1;have c0:=HB.out.cell 0;simp only[zga,zgz]at c0;clear k0 h hg;have HE:=zh (show rdListIn 8 id l=((rdAll rdWant l.length l).bind fun az=>some ({pkZ with k:=8,id:=id,wants:=az}, []))by rfl);rw[HE.out]
 go_enter Tryz.func68,Tryz.ntmps68
 go_wp2_with fail
 refine HA.out.mono ?_;rintro e w1 ⟨hk,hpost⟩;have HK1:=zh ((HK.out.weaken (T:= [r]) (by simp)).trans hk (fun _ hx _=>hx));have HG1:=zh (HG.out.keep hk (by have:=HGL.out.2;simp;omega));clear hk
 cases hX:rdAll rdWant l.length l with
 | none=>
  have HXo:=zh hX;rw[hX]at hpost;subst hpost;exact⟨rfl,HK1.out.weaken (by simp),by rw[HXo.out];rfl⟩
 | some az=>
  have HXo:=zh hX;rw[hX]at hpost;obtain⟨v,rfl,ho,hrd⟩:=hpost;obtain⟨A,c,rfl⟩:=ho.slice;have HO:=zh ho;have HRD:=zh hrd;have g0:=HG1.out.cell 21;have f0:=HG1.out.frozen 21;simp only[zga,zgz,zgs]at g0;clear hX ho hrd hW0
  go_wp2_with fail
  have kS:=Keeps.setCell w1 ⟨g,21,none⟩ (.slice A az.length c);have hfar:∀x∈ [g],r < x:=by have:=HGL.out.2;simpa using this
  refine bodyPost_end (results_none rfl _ _ _) rfl ⟨(HK1.out.weaken (T:= [r,g]) (by simp)).trans kS (fun x hx _=>by simp at hx;simp[hx]), ?_⟩;rw[HXo.out];exact⟨A,az.length,c,none,0,0,none,0,0,rfl,HG1.out.store 21 (.slice A az.length c),⟨rfl,⟨⟨A,c,rfl,(HO.out.keep kS (fun x hx=> .inr (fun cs hr=>by have hx:=List.mem_singleton.1 hx;subst hx;exact Row.ne_type HG1.out hr (by decide) rfl))).at_ encWant⟩,⟨none,0,rfl,ListAt.nil _ _ _ _ _⟩,⟨none,0,rfl,ListAt.nil _ _ _ _ _⟩⟩⟩,HRD.out.far kS hfar⟩
set_option maxRecDepth 100000 in
set_option maxHeartbeats 1000000 in
theorem pkIn9_any (W:World)(base r g:Nat)(id:Int)(l:List UInt8)(h:Rd W base r l)(hrg:r < g)(hl:l.length≤100000)(hg:Row W g 29 (zP 0 false false 0 [] [] id [] false 0 false [] [] 0 false false false [] [] false 0 (.slice none 0 0) (.slice none 0 0) (.slice none 0 0))):
  Calls Tryz.prog 77 #[.agg #[.pointer (some ⟨r,0,none⟩)],.pointer (some ⟨g,0,none⟩)] W (InPost W base r g id (rdListIn 9 id l)):=by
 obtain⟨W0,hW0⟩:∃W0,W.alloc (.cells #[.pointer (some ⟨r,0,none⟩)] 74)=W0:=⟨_,rfl⟩;have k0:Keeps W W0 []:=by rw[←hW0];exact Keeps.alloc _ _
 have HB:=zh (show Row W0 W.heap.size 74 #[.pointer (some ⟨r,0,none⟩)]by rw[←hW0];exact Row.new _ _ _);have HRL:=zh h.lt;have HG:=zh (hg.keeps k0);have HGL:=zh (And.intro hg.lt hrg);have HK:=zh k0;have HA:=zh (allC_any W0 base r W.heap.size l (h.keep k0 (by simp)) hl (fun W2 t hW2 ht=>tkC_any W2 base r W.heap.size t ht (HB.out.keep hW2 (by have:=HRL.out;simp;omega))));have hlt:=HGL.out.1;have c0:=HB.out.cell 0;simp only[zga,zgz]at c0;clear k0 h hg;have HE:=zh (show rdListIn 9 id l=((rdAll rdCode l.length l).bind fun az=>some ({pkZ with k:=9,id:=id,codes:=az}, []))by rfl);rw[HE.out]
 go_enter Tryz.func77,Tryz.ntmps77
 go_wp2_with fail
 refine HA.out.mono ?_;rintro e w1 ⟨hk,hpost⟩;have HK1:=zh ((HK.out.weaken (T:= [r]) (by simp)).trans hk (fun _ hx _=>hx));have HG1:=zh (HG.out.keep hk (by have:=HGL.out.2;simp;omega));clear hk
 cases hX:rdAll rdCode l.length l with
 | none=>
  have HXo:=zh hX;rw[hX]at hpost;subst hpost;exact⟨rfl,HK1.out.weaken (by simp),by rw[HXo.out];rfl⟩
 | some az=>
  have HXo:=zh hX;rw[hX]at hpost;obtain⟨v,rfl,ho,hrd⟩:=hpost;obtain⟨A,c,rfl⟩:=ho.slice;have HO:=zh ho;have HRD:=zh hrd;have g0:=HG1.out.cell 22;have f0:=HG1.out.frozen 22;simp only[zga,zgz,zgs]at g0;clear hX ho hrd hW0
  go_wp2_with fail
  have kS:=Keeps.setCell w1 ⟨g,22,none⟩ (.slice A az.length c);have hfar:∀x∈ [g],r < x:=by have:=HGL.out.2;simpa using this
  refine bodyPost_end (results_none rfl _ _ _) rfl ⟨(HK1.out.weaken (T:= [r,g]) (by simp)).trans kS (fun x hx _=>by simp at hx;simp[hx]), ?_⟩;rw[HXo.out];exact⟨none,0,0,A,az.length,c,none,0,0,rfl,HG1.out.store 22 (.slice A az.length c),⟨rfl,⟨⟨none,0,rfl,ListAt.nil _ _ _ _ _⟩,⟨A,c,rfl,(HO.out.keep kS (fun x hx=> .inr (fun cs hr=>by have hx:=List.mem_singleton.1 hx;subst hx;exact Row.ne_type HG1.out hr (by decide) rfl))).at_ encIntC⟩,⟨none,0,rfl,ListAt.nil _ _ _ _ _⟩⟩⟩,HRD.out.far kS hfar⟩
set_option maxRecDepth 100000 in
set_option maxHeartbeats 1000000 in
theorem pkIn10_any (W:World)(base r g:Nat)(id:Int)(l:List UInt8)(h:Rd W base r l)(hrg:r < g)(hl:l.length≤100000)(hg:Row W g 29 (zP 0 false false 0 [] [] id [] false 0 false [] [] 0 false false false [] [] false 0 (.slice none 0 0) (.slice none 0 0) (.slice none 0 0))):
  Calls Tryz.prog 84 #[.agg #[.pointer (some ⟨r,0,none⟩)],.pointer (some ⟨g,0,none⟩)] W (InPost W base r g id (rdListIn 10 id l)):=by
 obtain⟨W0,hW0⟩:∃W0,W.alloc (.cells #[.pointer (some ⟨r,0,none⟩)] 74)=W0:=⟨_,rfl⟩;have k0:Keeps W W0 []:=by rw[←hW0];exact Keeps.alloc _ _
 have HB:=zh (show Row W0 W.heap.size 74 #[.pointer (some ⟨r,0,none⟩)]by rw[←hW0];exact Row.new _ _ _);have HRL:=zh h.lt;have HG:=zh (hg.keeps k0);have HGL:=zh (And.intro hg.lt hrg);have HK:=zh k0;have HA:=zh (allF_any W0 base r W.heap.size l (h.keep k0 (by simp)) hl (fun W2 t hW2 ht=>pvTxt_any W2 base r t ht));have hlt:=HGL.out.1;have c0:=HB.out.cell 0;simp only[zga,zgz]at c0;clear k0 h hg;have HE:=zh (show rdListIn 10 id l=((rdAll rdTx l.length l).bind fun az=>some ({pkZ with k:=10,id:=id,fs:=az}, []))by rfl);rw[HE.out]
 go_enter Tryz.func84,Tryz.ntmps84
 go_wp2_with fail
 refine HA.out.mono ?_;rintro e w1 ⟨hk,hpost⟩;have HK1:=zh ((HK.out.weaken (T:= [r]) (by simp)).trans hk (fun _ hx _=>hx));have HG1:=zh (HG.out.keep hk (by have:=HGL.out.2;simp;omega));clear hk
 cases hX:rdAll rdTx l.length l with
 | none=>
  have HXo:=zh hX;rw[hX]at hpost;subst hpost;exact⟨rfl,HK1.out.weaken (by simp),by rw[HXo.out];rfl⟩
 | some az=>
  have HXo:=zh hX;rw[hX]at hpost;obtain⟨v,rfl,ho,hrd⟩:=hpost;obtain⟨A,c,rfl⟩:=ho.slice;have HO:=zh ho;have HRD:=zh hrd;have g0:=HG1.out.cell 23;have f0:=HG1.out.frozen 23;simp only[zga,zgz,zgs]at g0;clear hX ho hrd hW0
  go_wp2_with fail
  have kS:=Keeps.setCell w1 ⟨g,23,none⟩ (.slice A az.length c);have hfar:∀x∈ [g],r < x:=by have:=HGL.out.2;simpa using this
  refine bodyPost_end (results_none rfl _ _ _) rfl ⟨(HK1.out.weaken (T:= [r,g]) (by simp)).trans kS (fun x hx _=>by simp at hx;simp[hx]), ?_⟩;rw[HXo.out];exact⟨none,0,0,none,0,0,A,az.length,c,rfl,HG1.out.store 23 (.slice A az.length c),⟨rfl,⟨⟨none,0,rfl,ListAt.nil _ _ _ _ _⟩,⟨none,0,rfl,ListAt.nil _ _ _ _ _⟩,⟨A,c,rfl,(HO.out.keep kS (fun x hx=> .inr (fun cs hr=>by have hx:=List.mem_singleton.1 hx;subst hx;exact Row.ne_type HG1.out hr (by decide) rfl))).at_ encTxt⟩⟩⟩,HRD.out.far kS hfar⟩

theorem PkT.far {w w' :World}{p:Pk}{sw sc sf:Value}{b:Nat}{cs:Array Value}(h:PkT w p sw sc sf)(_:b < w'.heap.size∨True)(hr:Row w b 29 cs)(hk:Keeps w w' [b]):PkT w' p sw sc sf:=by
 obtain⟨⟨A,a,e1,h1⟩,⟨B,b',e2,h2⟩,⟨C,c,e3,h3⟩⟩:=h;exact⟨⟨A,a,e1,h1.box hk hr (by decide)⟩,⟨B,b',e2,h2.box hk hr (by decide)⟩,⟨C,c,e3,h3.box hk hr (by decide)⟩⟩
set_option maxRecDepth 100000 in
set_option maxHeartbeats 2000000 in
theorem pkRdNone_any (w:World)(base r:Nat)(k:Int)(f:Nat)(l:List UInt8)(h:Rd w base r l)(hk:k=12∨k=13∨k=14):
  Calls Tryz.prog 50 #[.agg #[.pointer (some ⟨r,0,none⟩)],.int .i64 f] w (PkRdPost w base r (rdPk k f l)):=by
 rw[rdPk_none hk];clear hk;have HNR:=zh h.lt;obtain⟨W0,hW0⟩:∃W0,w.alloc (.cells #[.pointer (some ⟨r,0,none⟩)] 74)=W0:=⟨_,rfl⟩;obtain⟨W1,hW1⟩:∃W1,W0.alloc (.cells zP0 29)=W1:=⟨_,rfl⟩;have k0:Keeps w W0 []:=by rw[←hW0];exact Keeps.alloc _ _
 have k1:Keeps W0 W1 []:=by rw[←hW1];exact Keeps.alloc _ _
 have s0:W0.heap.size=w.heap.size+1:=by rw[←hW0];simp
 have s1:W1.heap.size=w.heap.size+2:=by rw[←hW1];simp[s0]
 have HB:=zh (show Row W1 w.heap.size 74 #[.pointer (some ⟨r,0,none⟩)]from(show Row W0 w.heap.size 74 #[.pointer (some ⟨r,0,none⟩)]by rw[←hW0];exact Row.new _ _ _).keeps k1);have HR:=zh (show Row W1 W0.heap.size 29 zP0 by rw[←hW1];exact Row.new _ _ _);have HK:=zh (k0.then_ k1);have HS:=zh (And.intro s0 s1);have HRD:=zh ((h.keep k0 (by simp)).keep k1 (by simp));have c0:=HB.out.cell 0;simp only[zga,zgz]at c0;clear k0 k1 s0 s1 h
 go_enter Tryz.func50,Tryz.ntmps50
 go_wp2_with (refine wpList_store_new rfl (.tmp 4) (.tmp 5) rfl zP0 zP0 W0 hW1.symm (by kernel_rfl) rfl (by simp[Value.oneCell']) rfl rfl ?_;intro w5 hw5)
 refine zh ?_;have q9:Row w5 W0.heap.size 29 zP0:=by rw[←hw5];exact Row.new _ _ _
 have e5:w5=W1:=by rw[←hw5];exact hW1
 have HQ:=zh q9;subst e5;clear hW0 hW1 q9 hw5 c0
 go_wp2_with fail
 obtain⟨d,hu,hd⟩:=undPack;exact bodyPost_ret (results_row (s:=4) (cs:=zL0) rfl rfl (range_row HQ.out) hu hd (by kernel_rfl)) rfl ⟨HK.out.weaken (by simp),_,_,_,rfl,PkT.empty rfl rfl rfl,HRD.out⟩
set_option maxRecDepth 100000 in
set_option maxHeartbeats 2000000 in
theorem pkRdList_any (w:World)(base r bx:Nat)(k f:Int)(l:List UInt8)(i:FuncId)(h:Rd w base r l)(hl:l.length≤100000)(hr:∀(args:Array Value) (w:World),(callFunc i args).run Tryz.prog w= .ok (.enter i args) w)(hb:Row w bx 110 #[.func (.func i) #[] #[]])
  (HC:∀W g (id:Int) t,r < g→t.length≤100000→Rd W base r t→Row W g 29 (zP 0 false false 0 [] [] id [] false 0 false [] [] 0 false false false [] [] false 0 (.slice none 0 0) (.slice none 0 0) (.slice none 0 0))→Calls Tryz.prog i #[.agg #[.pointer (some ⟨r,0,none⟩)],.pointer (some ⟨g,0,none⟩)] W (InPost W base r g id (rdListIn k id t))):
  Calls Tryz.prog 113 #[.agg #[.pointer (some ⟨r,0,none⟩)],.int .i64 f,.pointer (some ⟨bx,0,none⟩)] w (PkRdPost w base r (rdList k l)):=by
 rw[rdList_in];have HC:=zh HC;have HNB:=zh (show bx≠r by
  rintro rfl;obtain⟨x,h1⟩:=h.row;exact Row.ne_type hb h1 (by decide) rfl)
 have HNR:=zh h.lt;obtain⟨W0,hW0⟩:∃W0,w.alloc (.cells #[.pointer (some ⟨r,0,none⟩)] 74)=W0:=⟨_,rfl⟩;obtain⟨W1,hW1⟩:∃W1,W0.alloc (.cells zP0 29)=W1:=⟨_,rfl⟩;have k0:Keeps w W0 []:=by rw[←hW0];exact Keeps.alloc _ _
 have k1:Keeps W0 W1 []:=by rw[←hW1];exact Keeps.alloc _ _
 have s0:W0.heap.size=w.heap.size+1:=by rw[←hW0];simp
 have s1:W1.heap.size=w.heap.size+2:=by rw[←hW1];simp[s0]
 have HB:=zh (show Row W1 w.heap.size 74 #[.pointer (some ⟨r,0,none⟩)]from(show Row W0 w.heap.size 74 #[.pointer (some ⟨r,0,none⟩)]by rw[←hW0];exact Row.new _ _ _).keeps k1);have HR:=zh (show Row W1 W0.heap.size 29 zP0 by rw[←hW1];exact Row.new _ _ _);have HK:=zh (k0.then_ k1);have HS:=zh (And.intro s0 s1);have HRD:=zh ((h.keep k0 (by simp)).keep k1 (by simp));have c0:=HB.out.cell 0;simp only[zga,zgz]at c0;have HF:=zh ((hb.keeps k0).keeps k1);clear k0 k1 s0 s1 h hb
 rcases hE:rdN 2 l with _ | ⟨n,t⟩
 ·have HE:=zh hE
  clear hE
  go_enter Tryz.func113,Tryz.ntmps113
  go_wp2_with fail
  refine(pvNum_none (k' :=2) HRD.out HE.out (by omega) (by omega) rfl).mono ?_;rintro e w3 ⟨hk,rfl⟩;exact⟨rfl,(HK.out.weaken (T:= [r]) (by simp)).trans hk (fun _ hx _=>hx),rfl⟩
 ·have HE:=zh hE
  have HTL:=zh (show t.length≤100000 by have:=(rdN_sound hE).2.2;omega);clear hE
  go_enter Tryz.func113,Tryz.ntmps113
  go_wp2_with fail
  refine(pvNum2_some HRD.out HE.out).mono ?_;rintro e w3 ⟨hk,rfl,hrd⟩;have HK3:=zh hk;have HRD3:=zh hrd;clear hk hrd hW0 hW1 c0;obtain⟨W4,hW4⟩:∃W4,w3.alloc (.cells zP0 29)=W4:=⟨_,rfl⟩
  go_wp2_with (refine wpList_store_new rfl (.tmp 6) (.tmp 9) rfl (zP 0 false false 0 [] [] (n:Nat) [] false 0 false [] [] 0 false false false [] [] false 0 (.slice none 0 0) (.slice none 0 0) (.slice none 0 0)) zP0 w3 hW4.symm (by kernel_rfl) rfl (by simp[Value.oneCell']) rfl rfl ?_;intro w5 hw5)
  refine zh ?_;have q9:Row w5 w3.heap.size 29 (zP 0 false false 0 [] [] (n:Nat) [] false 0 false [] [] 0 false false false [] [] false 0 (.slice none 0 0) (.slice none 0 0) (.slice none 0 0)):=by rw[←hw5];exact Row.new _ _ _
  have k9:Keeps w3 w5 []:=by rw[←hw5];exact Keeps.alloc _ _
  obtain⟨G,hG⟩:∃G,w3.heap.size=G:=⟨_,rfl⟩;rw[hG]at q9 ⊢
  have HGs:=zh (show w.heap.size+2≤G by have:=HK3.out.size;have:=HS.out.2;omega);have HRG:=zh (show r < G by have:=HGs.out;have:=HNR.out;omega);have HK5:=zh (show Keeps W1 w5 [r]from HK3.out.trans k9 (by simp));have HRD5:=zh (HRD3.out.keep k9 (by simp));have c0:=(HB.out.keep HK5.out (by have:=HNR.out;simp;omega)).cell 0;have f0:=(HF.out.keep HK5.out (by have:=HNB.out;simpa using this)).cell 0;simp only[zga,zgz]at c0 f0;have HCC:=zh (HC.out w5 G (n:Nat) t HRG.out HTL.out HRD5.out q9);clear k9 hW4 q9 hw5 hG
  go_wp2_with fail
  refine HCC.out.mono ?_;rintro e w6 ⟨hk6,hpost⟩;have HK6:=zh hk6;clear hk6 c0 f0
  cases hX:rdListIn k (n:Int) t with
  | none=>
   have HXo:=zh hX;rw[hX]at hpost;subst hpost;refine⟨rfl,((HK.out.weaken (T:= [r]) (by simp)).trans HK5.out (fun _ hx _=>hx)).trans HK6.out (fun x hx hlt=> ?_), ?_⟩
   ·have:=HGs.out
    simp at hx
    rcases hx with rfl | rfl
    ·simp
    ·omega
   ·simp only[Option.bind_some]
    rw[HXo.out]
    trivial
  | some pt=>
   obtain⟨p,t'⟩:=pt;have HXo:=zh hX;rw[hX]at hpost;obtain⟨A1,n1,c1,A2,n2,c2,A3,n3,c3,rfl,hrow,⟨hp,hpl⟩,hrd⟩:=hpost;have HP:=zh (And.intro hp hpl);have HRW:=zh hrow;have HRD6:=zh hrd;have HR6:=zh (show Row w6 W0.heap.size 29 zP0 from(HR.out.keep HK5.out (by have:=HNR.out;have:=HS.out;simp;omega)).keep HK6.out (by have:=HGs.out;have:=HNR.out;have:=HS.out;simp;omega));clear hX hp hpl hrow hrd
   go_upto_region 3 with fail
   refine wp_region_line KeepsAll _ 1 rfl (by kernel_rfl) (by kernel_rfl) (fun _=>Keeps.refl _ _) (fun _ _ _ h k=>h.trans k (by simp)) ?_;simp only[zts,ztz,zds,zdz];refine lw 29 (.tmp 6) (G) ((zL 0 false false 0 [] [] (n:Nat) [] false 0 false [] [] 0 false false false [] [] false 0 (.slice A1 n1 c1) (.slice A2 n2 c2) (.slice A3 n3 c3))) Tryz.underlying29 (fun W hW=>range_row (HRW.out.keeps hW)) ?_;refine loose_nil (fun W vals hW hkn=> ?_);simp only[addEnt,knowsAll]at hkn
   try simp only[and_true]at hkn
   simp only[addEnt,fill,Act.put,zsa,zsc,zsz];clear hkn;refine wpList_store_row rfl (.tmp 5) (.tmp 13) 29 rfl W0.heap.size (zP 0 false false 0 [] [] (n:Nat) [] false 0 false [] [] 0 false false false [] [] false 0 (.slice A1 n1 c1) (.slice A2 n2 c2) (.slice A3 n3 c3)) zP0 (HR6.out.keeps hW) (by kernel_rfl) rfl (by simp[Value.oneCell']) rfl rfl ?_;intro w7 r7 k7;have HR7:=zh r7;have HKL:=zh (show PkT w7 p (.slice A1 n1 c1) (.slice A2 n2 c2) (.slice A3 n3 c3)from(HP.out.2.keeps hW).far (.inr trivial) (HR6.out.keeps hW) k7);have HRD7:=zh ((HRD6.out.keep hW (by simp)).far k7 (fun x hx=>by have:=HNR.out;have:=HS.out;simp at hx;omega));have HK7:=zh (show Keeps w w7 [r]from((((HK.out.weaken (T:= [r]) (by simp)).trans HK5.out (fun _ hx _=>hx)).trans HK6.out (fun x hx hlt=>by
    have:=HGs.out;simp at hx
    rcases hx with rfl | rfl
    ·simp
    ·omega)).trans hW (by simp)).trans k7 (fun x hx hlt=>by have:=HS.out;simp at hx;omega))
   clear r7 k7 hW
   go_wp2_with fail
   obtain⟨d,hu,hd⟩:=undPack;refine bodyPost_ret (results_row (s:=5) (cs:=(zL 0 false false 0 [] [] (n:Nat) [] false 0 false [] [] 0 false false false [] [] false 0 (.slice A1 n1 c1) (.slice A2 n2 c2) (.slice A3 n3 c3))) rfl rfl (range_row HR7.out) hu hd (by kernel_rfl)) rfl ⟨HK7.out, ?_⟩;simp only[Option.bind_some];rw[HXo.out];refine⟨.slice A1 n1 c1,.slice A2 n2 c2,.slice A3 n3 c3, ?_,HKL.out,HRD7.out⟩;rw[HP.out.1];rfl
end Go.Proofs.YtahbikfbjenfpaaGreatDoor
