/- Reference 3: a text's bytes. The reference of packets: text, two, one. The reference of packets: body. -/
import Derived.Test.YtahbikfbjenfpaaGreatDoorPa21
import Derived.Test.YtahbikfbjenfpaaGreatDoorPa0
import Derived.Test.YtahbikfbjenfpaaGreatDoorPa35
import Derived.Test.YtahbikfbjenfpaaGreatDoorPa44

namespace Go.Proofs.YtahbikfbjenfpaaGreatDoor
open Go.RowKit

theorem toBE_two (n:Nat):toBE 2 n= [UInt8.ofNat (n / 256),UInt8.ofNat n]:=by
 rw[toBE_front 1 n,toBE_front 0 n];simp[toBE]
theorem own_two (w:World)(n:Nat)(hn:n≤65535):Owned (w.alloc (.cells #[.int .u8 ((n:Int) / 256),.int .u8 ((n:Int) % 256)] 5)) w.heap.size (.slice (some ⟨w.heap.size,0,none⟩) 2 2) (toBE 2 n):=by
 rw[toBE_two];refine⟨rfl,.inr ⟨w.heap.size,2, #[.int .u8 ((n:Int) / 256),.int .u8 ((n:Int) % 256)],rfl,Nat.le_refl _,Row.new _ _ _,Nat.le_refl _,by simp[maxLen],rfl, ?_⟩⟩;have h1:((n / 256 % 256:Nat):Int)=(n:Int) / 256:=by omega
 have h2:((n % 256:Nat):Int)=(n:Int) % 256:=by omega
 simp[byteV,h1,h2]
set_option maxRecDepth 100000 in
set_option maxHeartbeats 1000000 in
theorem refText_any (w:World)(s:List UInt8)(hs:s.length≤65535):
  Calls Tryz.prog 151 #[strV s] w fun e w' =>
   ∃v,e= .returned (.tuple #[v,.bool true])∧Owned w' w.heap.size v (toBE 2 s.length++s)∧Keeps w w' []:=by
 have hsz:(⟨s.toArray⟩:ByteArray).size=s.length:=size_str s;have h16:decide ((65535:Int) < (s.length:Int))=false:=by simp;omega
 have hq:(s.length:Int).tdiv 256=(s.length:Int) / 256:=Int.tdiv_eq_ediv_of_nonneg (by omega);have hr:(s.length:Int).tmod 256=(s.length:Int) % 256:=Int.tmod_eq_emod_of_nonneg (by omega);have hw:IntKind.u8.wrap ((s.length:Int) / 256)=(s.length:Int) / 256:=IntWalk.u8_in _ ⟨by omega,by omega⟩;have hw2:IntKind.u8.wrap ((s.length:Int) % 256)=(s.length:Int) % 256:=IntWalk.u8_in _ ⟨by omega,by omega⟩;have HS:=zh hs;clear hs;unfold strV
 go_enter Tryz.func151,Tryz.ntmps151
 have hw64:wrap64 ((s.length:Int) / 256)=(s.length:Int) / 256:=by have:=HS.out;unfold wrap64;omega
 have hm:(s.length:Int) / 256 % 256=(s.length:Int) / 256:=by have:=HS.out;omega
 go_wp2_with (at_builtin;refine wpList_append_str rfl (.tmp 15) (.tmp 16) rfl w.heap.size (.slice (some ⟨w.heap.size,0,none⟩) 2 2) (toBE 2 s.length) s rfl (own_two w s.length HS.out) rfl (by have:=HS.out;rw[toBE_length];omega) (by simp) ?_;intro u2 w2 HA)
 go_ret2
 exact⟨u2,rfl,HA.out.1,(Keeps.alloc _ _).trans HA.out.2 (fun x hx hlt=>by simp[Value.ownBlock]at hx;omega)⟩
end Go.Proofs.YtahbikfbjenfpaaGreatDoor

namespace Go.Proofs.YtahbikfbjenfpaaGreatDoor
open Go.RowKit Go.Shelf

theorem rfText_any (w:World)(s:List UInt8)(hs:s.length≤65535):Calls Tryz.prog 101 #[.string ⟨s.toArray⟩] w fun e w' =>∃v,e= .returned v∧Owned w' w.heap.size v (pkTx s)∧Keeps w w' []:=by
 have HT:=zh (fun w=>refText_any w s hs);unfold strV at HT;clear hs
 go_enter Tryz.func101,Tryz.ntmps101
 go_wp2_with fail
 refine(HT.out _).mono ?_;rintro e w' ⟨v,rfl,ho,hk⟩;have HO:=zh (And.intro ho hk);clear ho hk
 go_wp2_with fail
 go_ret;exact⟨v,rfl,HO.out.1,HO.out.2⟩
theorem rfTwo_any (w:World)(n:Int)(h0:0≤n)(h1:n≤65535):Calls Tryz.prog 102 #[.int .i64 n] w fun e w' =>∃v,e= .returned v∧Owned w' w.heap.size v (pkTwo n)∧Keeps w w' []:=by
 obtain⟨n,rfl⟩:=Int.eq_ofNat_of_zero_le h0;have hn:n≤65535:=by omega
 have hq:(n:Int).tdiv 256=(n:Int) / 256:=Int.tdiv_eq_ediv_of_nonneg (by omega);have hr:(n:Int).tmod 256=(n:Int) % 256:=Int.tmod_eq_emod_of_nonneg (by omega);have hw:IntKind.u8.wrap ((n:Int) / 256)=(n:Int) / 256:=IntWalk.u8_in _ ⟨by omega,by omega⟩;have hw2:IntKind.u8.wrap ((n:Int) % 256)=(n:Int) % 256:=IntWalk.u8_in _ ⟨by omega,by omega⟩;have HS:=zh hn;clear h0 h1 hn
 go_enter Tryz.func102,Tryz.ntmps102
 have hw64:wrap64 ((n:Int) / 256)=(n:Int) / 256:=by have:=HS.out;unfold wrap64;omega
 have hm:(n:Int) / 256 % 256=(n:Int) / 256:=by have:=HS.out;omega
 go_wp2_with fail
 go_ret;exact⟨_,rfl,own_two w n HS.out,Keeps.alloc _ _⟩
theorem rfOne_any (w:World)(b:Bool)(n:Nat):Calls Tryz.prog 34 #[.bool b,.int .i64 n] w fun e w' =>e= .returned (.int .i64 (pkB b n:Nat))∧Keeps w w' []:=by
 cases b with
 | true=>
  go_enter Tryz.func34,Tryz.ntmps34
  go_wp2_with fail
  go_ret;exact⟨rfl,Keeps.refl _ _⟩
 | false=>
  go_enter Tryz.func34,Tryz.ntmps34
  go_wp2_with fail
  go_ret;exact⟨rfl,Keeps.refl _ _⟩

/-- Bytes written so far, in memory of one's own. -/
structure RbAt (W0 W:World)(v:Value)(l:List UInt8):Prop where
 own:Owned W W0.heap.size v l
 k:Keeps W0 W []
theorem RbAt.then_ {W0 W W1:World}{v:Value}{l:List UInt8}(h:RbAt W0 W v l)(hk:Keeps W W1 []):RbAt W0 W1 v l:=⟨own_keep h.own hk (by simp),h.k.then_ hk⟩
theorem RbAt.app {W0 W W2:World}{v v2:Value}{l l2:List UInt8}(h:RbAt W0 W v l)(ho:Owned W2 W0.heap.size v2 l2)(hk:Keeps W W2 v.ownBlock.toList):RbAt W0 W2 v2 l2:=⟨ho,h.k.trans hk (fun x hx hlt=>by have:=(h.own.lt x (by simpa using hx)).1;omega)⟩
theorem RbAt.new {W0 W W1:World}{v:Value}{l:List UInt8}(h0:Keeps W0 W [])(ho:Owned W1 W.heap.size v l)(hk:Keeps W W1 []):RbAt W0 W1 v l:=⟨own_base ho h0.size,h0.then_ hk⟩
set_option maxRecDepth 100000 in
set_option maxHeartbeats 2000000 in
theorem body3_walk (p:Pk)(X:Array Value)(sw sc sf:Value)(w:World)(hX:PkAt p X sw sc sf)(h3:p.k=3)(ht:p.t.length≤200)(hb:p.b.length≤2000)(hq:0≤p.q)(hi:0≤p.id∧p.id≤65535):
  Calls Tryz.prog 35 #[.agg X] w fun e w' =>∃v,e= .returned v∧Owned w' w.heap.size v (pkBody p)∧Keeps w w' []:=by
 have HM:Hid (pkBody p=pkTx p.t++(pkIf (decide (0 < p.q)) (pkTwo p.id)++p.b)):=zh (by unfold pkBody;rw[if_neg (by omega),if_neg (by omega),if_pos h3]);have HX:=zh hX;have HT:=zh (fun w=>rfText_any w p.t (by omega));have HW:=zh (fun w=>rfTwo_any w p.id hi.1 hi.2);have HLT:=zh (show(pkTx p.t).length=2+p.t.length by simp[pkTx,toBE_length]);have HLW:=zh (show(pkTwo p.id).length=2 by simp[pkTwo,toBE_length]);have HSZ:=zh (And.intro ht hb);obtain⟨W0,hW0⟩:∃W0,w.alloc (.cells X 29)=W0:=⟨_,rfl⟩;have HR:=zh (show Keeps w W0 []∧Row W0 w.heap.size 29 X from by
  rw[←hW0];exact⟨Keeps.alloc _ _,Row.new _ _ _⟩)
 have c0:=HX.out.c0;rw[h3]at c0;have x0:=(HR.out.2.cell 0).trans c0;have x4:=(HR.out.2.cell 4).trans HX.out.c4;clear hX h3 ht hb hi c0
 go_enter Tryz.func35,Tryz.ntmps35
 go_upto_region 1 with fail
 try rw[hW0]
 clear hW0
 go_wp2_with fail
 refine(HT.out _).mono ?_;rintro e w' ⟨v,rfl,ho,hk⟩;have HB:=zh (RbAt.new (Keeps.refl W0 []) ho hk);have x3:=((HR.out.2.keeps hk).cell 3).trans HX.out.c3;clear ho hk x0 x4
 by_cases hq0:0 < p.q
 ·have hqb:decide (0 < p.q)=true:=decide_eq_true hq0
  rw[hqb]at HM;have x6:=((HR.out.2.keeps HB.out.k).cell 6).trans HX.out.c6
  go_wp2_with fail
  clear x3 x6 hqb;refine(HW.out _).mono ?_;rintro e w2 ⟨u,rfl,ho2,hk2⟩;have HB2:=zh (HB.out.then_ hk2);have HU:=zh (Owned.bytes ho2 (by rw[HLW.out];decide));clear ho2 hk2;have hbs:=HB2.out.k.size
  go_wp2_with (at_builtin;refine wpList_append_bytes _ rfl (.tmp 97) (.tmp 100) rfl W0.heap.size v u (pkTx p.t) (pkTwo p.id) rfl rfl HB2.out.own HU.out (by have:=HSZ.out;rw[HLT.out,HLW.out];omega) hbs ?_;intro A3 c3 w3 l3 E3 hl3 ho3 hk3 hb3;refine Hid.out ?_)
  refine zh ?_;have HB3:=zh (HB2.out.app ho3 hk3);have x5:=((HR.out.2.keeps HB3.out.k).cell 5).trans HX.out.c5;have hbs3:=HB3.out.k.size;have HL3:=zh hl3;clear ho3 hk3 hb3 hbs hl3
  go_wp2_with (at_builtin;refine wpList_append_str rfl (.tmp 102) (.tmp 104) rfl W0.heap.size (.slice A3 l3.length c3) l3 p.b rfl HB3.out.own rfl (by have:=HSZ.out;have:=HL3.out;have:=HLT.out;have:=HLW.out;omega) hbs3 ?_;intro u2 w4 HA;refine Hid.out ?_)
  refine zh ?_;have HB4:=zh (HB3.out.app HA.out.1 HA.out.2)
  go_wp2_with fail
  go_ret;exact⟨u2,rfl,by rw[HM.out,show pkIf true (pkTwo p.id)=pkTwo p.id from rfl,←List.append_assoc,←E3.out];exact own_base HB4.out.own HR.out.1.size,HR.out.1.then_ HB4.out.k⟩
 ·have hqb:decide (0 < p.q)=false:=decide_eq_false hq0
  rw[hqb]at HM;have x5:=((HR.out.2.keeps HB.out.k).cell 5).trans HX.out.c5;have hbs3:=HB.out.k.size;clear hqb
  go_wp2_with (at_builtin;refine wpList_append_str rfl (.tmp 102) (.tmp 104) rfl W0.heap.size v (pkTx p.t) p.b rfl HB.out.own rfl (by have:=HSZ.out;have:=HLT.out;omega) hbs3 ?_;intro u2 w4 HA;refine Hid.out ?_)
  refine zh ?_;have HB4:=zh (HB.out.app HA.out.1 HA.out.2)
  go_wp2_with fail
  go_ret;exact⟨u2,rfl,by rw[HM.out];exact own_base HB4.out.own HR.out.1.size,HR.out.1.then_ HB4.out.k⟩
set_option maxRecDepth 100000 in
set_option maxHeartbeats 2000000 in
theorem body2_walk (p:Pk)(X:Array Value)(sw sc sf:Value)(w:World)(hX:PkAt p X sw sc sf)(h2:p.k=2)(hc:0≤p.code∧p.code≤5):
  Calls Tryz.prog 35 #[.agg X] w fun e w' =>∃v,e= .returned v∧Owned w' w.heap.size v (pkBody p)∧Keeps w w' []:=by
 have HM:Hid (pkBody p=pkOne (pkB p.pr 1)++pkOne p.code.toNat):=zh (by unfold pkBody;rw[if_neg (by omega),if_pos h2]);have HX:=zh hX;have HO:=zh (show∀(w:World) (b:Bool),Calls Tryz.prog 34 #[.bool b,.int .i64 1] w fun e w' =>e= .returned (.int .i64 (pkB b 1:Nat))∧Keeps w w' []from fun w b=>rfOne_any w b 1);obtain⟨W0,hW0⟩:∃W0,w.alloc (.cells X 29)=W0:=⟨_,rfl⟩;have HR:=zh (show Keeps w W0 []∧Row W0 w.heap.size 29 X from by
  rw[←hW0];exact⟨Keeps.alloc _ _,Row.new _ _ _⟩)
 have c0:=HX.out.c0;rw[h2]at c0;obtain⟨c,hcc⟩:∃c:Nat,p.code=(c:Int):=⟨p.code.toNat,by omega⟩;have c20:=HX.out.c20;rw[hcc]at c20 HM hc;obtain⟨b,hb⟩:∃b,p.pr=b:=⟨_,rfl⟩;have c19:=HX.out.c19;rw[hb]at c19 HM;have x0:=(HR.out.2.cell 0).trans c0;have HC19:=zh c19;have HC20:=zh c20;have HCC:=zh hc;clear hX h2 hc c0 c19 c20 hcc hb
 go_enter Tryz.func35,Tryz.ntmps35
 go_upto_region 1 with fail
 try rw[hW0]
 clear hW0
 go_wp2_with fail
 have M19:=fun(W' :World) (hW:Keeps W0 W' [])=>((HR.out.2.keeps hW).cell 19).trans HC19.out
 have M20:=fun(W' :World) (hW:Keeps W0 W' [])=>((HR.out.2.keeps hW).cell 20).trans HC20.out
 have hw:IntKind.u8.wrap (c:Int)=(c:Int):=IntWalk.u8_in _ ⟨by omega,by have:=HCC.out;omega⟩;have hw2:IntKind.u8.wrap ((pkB b 1:Nat):Int)=((pkB b 1:Nat):Int):=IntWalk.u8_in _ ⟨by omega,by cases b <;> simp[pkB]⟩;clear x0;refine wp_region_keeps _ (by kernel_rfl) rfl (by kernel_rfl) ?_;refine ls ?_;simp only[addEnt];apply loose_is
 ·intro W vals hW hkn
  simp only[knows]at hkn
  try simp only[and_true]at hkn
  clear hkn;have m:=M19 W hW;refine⟨?_⟩;simp only[fill];go_simp
  first | exact⟨Keeps.refl _ _,rfl⟩ | exact⟨Keeps.alloc _ _,rfl⟩
 simp only[addEnt];apply loose_is
 ·intro W vals hW hkn
  clear hkn;refine⟨?_⟩;simp only[fill];go_simp;refine looseUpon_calls ?_;exact(HO.out W b).mono (by rintro e w3 ⟨rfl,hk⟩;exact⟨_,rfl,hk,rfl⟩)
 simp only[addEnt];apply loose_is
 ·intro W vals hW hkn
  simp only[knows]at hkn
  try simp only[and_true]at hkn
  clear hkn;refine⟨?_⟩;simp only[fill];go_simp
  first | exact⟨Keeps.refl _ _,rfl⟩ | exact⟨Keeps.alloc _ _,rfl⟩
 simp only[addEnt];refine ls ?_;simp only[addEnt];apply loose_is
 ·intro W vals hW hkn
  simp only[knows]at hkn
  try simp only[and_true]at hkn
  clear hkn;have m:=M20 W hW;refine⟨?_⟩;simp only[fill];go_simp
  first | exact⟨Keeps.refl _ _,rfl⟩ | exact⟨Keeps.alloc _ _,rfl⟩
 simp only[addEnt];apply loose_is
 ·intro W vals hW hkn
  simp only[knows]at hkn
  try simp only[and_true]at hkn
  clear hkn;refine⟨?_⟩;simp only[fill];go_simp
  first | exact⟨Keeps.refl _ _,rfl⟩ | exact⟨Keeps.alloc _ _,rfl⟩
 simp only[addEnt];refine loose_has (fun v W' =>∃b',v= .slice (some ⟨b',0,none⟩) 2 2∧Row W' b' 5 #[.int .u8 (pkB b 1:Nat),.int .u8 c]∧W0.heap.size≤b') (fun W vals hW hkn φ' hφ=> ?_) ?_
 ·simp only[knows]at hkn
  try simp only[and_true]at hkn
  clear hkn;refine⟨?_⟩;simp only[fill];go_simp;exact⟨Keeps.alloc _ _,hφ.out _ _ ⟨_,rfl,Row.new _ _ _,hW.size⟩⟩
 simp only[addEnt];refine loose_has (fun v W' =>∃b',v= .slice (some ⟨b',0,none⟩) 2 2∧Row W' b' 5 #[.int .u8 (pkB b 1:Nat),.int .u8 c]∧W0.heap.size≤b') (fun W vals hW hkn φ' hφ=> ?_) ?_
 ·simp only[knows]at hkn
  try simp only[and_true]at hkn
  obtain⟨W1,h0,h1,b',hv,hr,hb⟩:=hkn (by decide);refine⟨?_⟩;simp only[fill];go_simp;exact⟨Keeps.refl _ _,hφ.out _ _ ⟨b',rfl,hr.keeps h1,hb⟩⟩
 simp only[addEnt];refine loose_nil (fun W vals hW hkn=> ?_);simp only[knowsAll]at hkn
 try simp only[and_true]at hkn
 simp only[fill,Act.put,zsa,zsc,zsz];obtain⟨⟨W1,h0,h1,b',hv,hr,hb⟩,-⟩:=hkn;rw[hv];have HF:=zh (And.intro (hr.keeps h1) (And.intro (Nat.le_trans HR.out.1.size hb) (HR.out.1.then_ hW)));clear h0 h1 hv hr hb hW M19 M20 hw hw2
 go_wp2_with fail
 go_ret;refine⟨_,rfl, ?_,HF.out.2.2⟩;rw[HM.out];refine⟨by simp[pkOne,toBE_length],.inr ⟨b',2,_,rfl,HF.out.2.1,HF.out.1,Nat.le_refl _,by simp[maxLen],rfl, ?_⟩⟩;have hc:=HCC.out;have e1:pkOne (pkB b 1)= [UInt8.ofNat (pkB b 1)]:=by cases b <;> rfl
 have e2:pkOne (Int.toNat (c:Int))= [UInt8.ofNat c]:=by
  simp only[pkOne,toBE,Int.toNat_natCast]
  first
   | rfl
   | (simp;rw[Nat.mod_eq_of_lt (by omega)])
 have e3:((c % 256:Nat):Int)=(c:Int):=by omega
 rw[e1,e2]
 cases b <;> simp[byteV,pkB,e3]
set_option maxRecDepth 100000 in
set_option maxHeartbeats 2000000 in
theorem body12_walk (p:Pk)(X:Array Value)(sw sc sf:Value)(w:World)(hX:PkAt p X sw sc sf)(h:p.k=12∨p.k=13∨p.k=14):
  Calls Tryz.prog 35 #[.agg X] w fun e w' =>∃v,e= .returned v∧Owned w' w.heap.size v (pkBody p)∧Keeps w w' []:=by
 have HM:Hid (pkBody p= []):=zh (by unfold pkBody;rw[if_neg (by omega),if_neg (by omega),if_neg (by omega),if_neg (by omega),if_neg (by omega),if_neg (by omega),if_pos h]);have c0:=hX.c0;clear hX;obtain⟨W0,hW0⟩:∃W0,w.alloc (.cells X 29)=W0:=⟨_,rfl⟩;have HR:=zh (show Keeps w W0 []∧Row W0 w.heap.size 29 X from by
  rw[←hW0];exact⟨Keeps.alloc _ _,Row.new _ _ _⟩)
 have x0:=(HR.out.2.cell 0).trans c0;clear c0;obtain⟨k,hk⟩:∃k,p.k=k:=⟨_,rfl⟩;rw[hk]at x0 h;clear hk
 go_enter Tryz.func35,Tryz.ntmps35
 go_upto_region 1 with fail
 try rw[hW0]
 clear hW0
 rcases h with rfl | rfl | rfl
 all_goals
  go_wp2_with fail
  go_ret;exact⟨_,rfl,by rw[HM.out];exact⟨rfl,.inl ⟨rfl,rfl⟩⟩,HR.out.1⟩
end Go.Proofs.YtahbikfbjenfpaaGreatDoor
