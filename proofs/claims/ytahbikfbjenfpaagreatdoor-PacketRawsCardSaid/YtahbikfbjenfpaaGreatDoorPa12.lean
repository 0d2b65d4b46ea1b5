/- Package packet: within, qos, said, bits. A region of a fixed order, met as one that draws its order: each operation once, at any world that keeps what lay. Package packet, plain: bytes are no two packets', nor begin with another one's. -/
import Derived.Test.YtahbikfbjenfpaaGreatDoorPa4
import Derived.Test.YtahbikfbjenfpaaGreatDoorPa11
import Derived.Test.YtahbikfbjenfpaaGreatDoorPa2
import Derived.Test.YtahbikfbjenfpaaGreatDoorPa1

namespace Go.Proofs.YtahbikfbjenfpaaGreatDoor
open Go.RowKit

theorem tFilt_any (w:World)(s:List UInt8)(hs:s.length≤50000)(hm:MaxL w):Calls Tryz.prog 64 #[.string ⟨s.toArray⟩] w (TruePost w (tFilter s)):=
 callsIn_wide.1 (tFilter_in 4 (by omega) w s hs hm)
set_option maxRecDepth 100000 in
theorem pkWithin_any (n a b:Int)(w:World):Calls Tryz.prog 52 #[.int .i64 n,.int .i64 a,.int .i64 b] w (TruePost w (pkIn n a b)):=by
 by_cases h1:a≤n
 ·by_cases h2:n≤b
  ·have HE:=zh (show pkIn n a b=true by unfold pkIn;simp[h1,h2])
   go_enter Tryz.func52,Tryz.ntmps52
   go_wp2_with fail
   go_ret;exact⟨by rw[HE.out];simp,Keeps.refl _ _⟩
  ·have HE:=zh (show pkIn n a b=false by unfold pkIn;simp[h2])
   go_enter Tryz.func52,Tryz.ntmps52
   go_wp2_with fail
   go_ret;exact⟨by rw[HE.out];simp,Keeps.refl _ _⟩
 ·have HE:=zh (show pkIn n a b=false by unfold pkIn;simp[h1])
  go_enter Tryz.func52,Tryz.ntmps52
  go_wp2_with fail
  go_ret;exact⟨by rw[HE.out];simp,Keeps.refl _ _⟩
set_option maxRecDepth 100000 in
theorem pkQos_any (n:Int)(w:World):Calls Tryz.prog 65 #[.int .i64 n] w (TruePost w (pkIn n 0 2)):=by
 go_enter Tryz.func65,Tryz.ntmps65
 go_wp2_with fail
 refine(pkWithin_any n 0 2 w).mono ?_;rintro e w1 ⟨rfl,hk⟩;have HK:=zh hk;clear hk
 go_wp2_with fail
 go_ret;exact⟨rfl,HK.out⟩
set_option maxRecDepth 100000 in
theorem pkSaid_any (s:List UInt8)(n:Nat)(w:World)(hs:s.length≤60000):Calls Tryz.prog 127 #[.string ⟨s.toArray⟩,.int .i64 (n:Int)] w (TruePost w (pkSaid s n)):=by
 obtain⟨S,hS⟩:∃S:ByteArray,(⟨s.toArray⟩:ByteArray)=S:=⟨_,rfl⟩;have hsz:S.size=s.length:=by rw[←hS];rfl
 have HS:=zh hS;rw[hS];clear hS
 by_cases h:s.length≤n
 ·have HT:=zh (show pkSaid s n=uGood s by unfold pkSaid;simp[h])
  have hL:(s.length:Int)≤(n:Int):=by omega
  clear h
  go_enter Tryz.func127,Tryz.ntmps127
  go_wp2_with fail
  rw[←HS.out];refine(uCheck_any w s hs).mono ?_;rintro e w1 ⟨rfl,hk⟩;rw[HS.out];have HK:=zh hk;clear hk
  cases hg:uGood s with
  | true=>
   have hc:uCode s=0:=by unfold uCode;rw[hg];rfl
   rw[hc];rw[hg]at HT;clear hg
   go_wp2_with fail
   go_ret;exact⟨by rw[HT.out];rfl,HK.out⟩
  | false=>
   have hc:uCode s=220:=by unfold uCode;rw[hg];rfl
   rw[hc];rw[hg]at HT;clear hg
   go_wp2_with fail
   go_ret;exact⟨by rw[HT.out];rfl,HK.out⟩
 ·have HT:=zh (show pkSaid s n=false by unfold pkSaid;simp;omega)
  have hL:¬(s.length:Int)≤(n:Int):=by omega
  clear h
  go_enter Tryz.func127,Tryz.ntmps127
  go_wp2_with fail
  go_ret;exact⟨by rw[HT.out];simp,Keeps.refl _ _⟩
def boolC (x:Bool):List Value:= [.bool x]
/-- The sum of the numbers whose truths are so. -/
def bitSum:List Nat→List Bool→Nat
 | n::ns,t::ts=>pkB t n+bitSum ns ts
 | _,_=>0
theorem bitSum_take:∀(ns:List Nat) (ts:List Bool) (j:Nat) (hn:j < ns.length) (ht:j < ts.length),bitSum (ns.take (j+1)) (ts.take (j+1))=bitSum (ns.take j) (ts.take j)+pkB ts[j] ns[j]
 | n::ns,t::ts,0,_,_=>by simp[bitSum]
 | n::ns,t::ts,j+1,hn,ht=>by
  have:=bitSum_take ns ts j (by simpa using hn) (by simpa using ht);simp only[zts,bitSum,List.getElem_cons_succ]at this ⊢
  omega
 | [],_,_,hn,_=>by simp at hn
 | _::_, [],_,_,ht=>by simp at ht
theorem bitSum_le:∀(ns:List Nat) (ts:List Bool),bitSum ns ts≤ns.sum
 | n::ns,t::ts=>by
  have:=bitSum_le ns ts;simp only[bitSum,List.sum_cons];have:pkB t n≤n:=by unfold pkB;cases t <;> simp
  omega
 | [],_=>by simp[bitSum]
 | _::_, []=>by simp[bitSum]
theorem mem_le_sum:∀{ns:List Nat} {n:Nat},n∈ns→n≤ns.sum
 | m::ns,n,h=>by
  rw[List.sum_cons]
  rcases List.mem_cons.1 h with rfl | h
  ·omega
  ·have:=mem_le_sum h
   omega
theorem sum_take_le (ns:List Nat)(j:Nat):(ns.take j).sum≤ns.sum:=by
 conv=>rhs;rw[←List.take_append_drop j ns]
 rw[List.sum_append];omega
set_option maxRecDepth 100000 in
set_option maxHeartbeats 2000000 in
theorem pkBits1_any (w:World)(A B:Option Addr)(c d bx:Nat)(ns:List Nat)(ts:List Bool)(hb:Row w bx 26 #[.slice B ns.length d])(h1:ListAt w 4 1 boolC A ts)(h2:ListAt w 3 1 intC B (ns.map fun n:Nat=>(n:Int)))(hl:ts.length=ns.length)(hs:ns.sum≤1000000)(hle:ns.length≤1000):
  Calls Tryz.prog 160 #[.slice A ts.length c,.pointer (some ⟨bx,0,none⟩)] w fun e w' =>e= .returned (.int .i64 (bitSum ns ts:Nat))∧Keeps w w' []:=by
 have HH:=zh (And.intro h1 (And.intro h2 hb));have HL:=zh (And.intro hl hs);have HB:=zh (fun j=>Nat.le_trans (bitSum_le (ns.take j) (ts.take j)) (sum_take_le ns j));clear h1 h2 hb hs;rw[hl];clear hl
 go_enter Tryz.func160,Tryz.ntmps160
 go_wp2_with fail
 go_loopw [4,9] (fun v i wr=>∃j:Nat,j≤ns.length∧i= .int .i64 j∧v= .int .i64 (bitSum (ns.take j) (ts.take j):Nat)∧Hid (Keeps w wr [])) (fun _ i _=>ns.length - (intOf i).toNat)
 case atStart=>exact⟨0,by omega,rfl,by simp[bitSum],zh (Keeps.refl _ _)⟩
 case round=>
  obtain⟨j,hj,rfl,rfl,HR⟩:=hrel
  by_cases hjl:j < ns.length
  ·have hjt:j < ts.length:=by have:=HL.out.1;omega
   obtain⟨b1,o1,cs1,rfl,hr1,hc1⟩:=HH.out.1 (by omega);obtain⟨b2,o2,cs2,rfl,hr2,hc2⟩:=HH.out.2.1 (by simp;omega);have HT:=zh (bitSum_take ns ts j hjl hjt);have hbj:=HB.out j;have hbs:=HL.out.2;have m0:=(HH.out.2.2.keeps HR.out).cell 0;have m1:=((hr1.keeps HR.out).cell (o1+j*1+0)).trans (hc1 j hjt 0 (by omega));have m2:=((hr2.keeps HR.out).cell (o2+j*1+0)).trans (hc2 j (by simpa using hjl) 0 (by omega));simp only[intC,boolC,zgz,zga,Nat.mul_one,Nat.add_zero,List.getElem_map]at m0 m1 m2;have hn:ns[j]≤1000000:=Nat.le_trans (mem_le_sum (List.getElem_mem hjl)) HL.out.2;clear hr1 hr2 hc1 hc2;obtain⟨S,hS⟩:∃S,bitSum (ns.take j) (ts.take j)=S:=⟨_,rfl⟩;rw[hS]at hbj HT ⊢
   clear hS;obtain⟨N,hN⟩:∃N,ns[j]=N:=⟨_,rfl⟩;rw[hN]at hn HT m2;clear hN;have hw:IntKind.i64.wrap ((S:Int)+(N:Int))=((S+N:Nat):Int):=(IntWalk.i64_in _ (by omega)).trans (by omega)
   cases ht:ts[j]with
   | true=>
    rw[ht]at m1 HT;clear ht
    go_wp2_with fail
    exact⟨⟨j+1,by omega,by go_num,by rw[HT.out];rfl,HR⟩,by simp[intOf];omega⟩
   | false=>
    rw[ht]at m1 HT;clear ht
    go_wp2_with fail
    exact⟨⟨j+1,by omega,by go_num,by rw[HT.out];rfl,HR⟩,by simp[intOf];omega⟩
  ·obtain rfl:j=ns.length:=by omega
   have HE:=zh (show bitSum (ns.take ns.length) (ts.take ns.length)=bitSum ns ts by rw[List.take_length,←HL.out.1,List.take_length]);rw[HE.out]
   go_wp2_with fail
   go_ret;exact⟨rfl,HR.out⟩
set_option maxRecDepth 100000 in
theorem pkBits_any (w:World)(A:Option Addr)(n c:Nat):Calls Tryz.prog 135 #[.slice A n c] w fun e w' =>e= .returned (.func (.func 160) #[] #[.pointer (some ⟨w.heap.size,0,none⟩)])∧w' =w.alloc (.cells #[.slice A n c] 26):=by
 go_enter Tryz.func135,Tryz.ntmps135
 go_wp2
 go_ret;exact⟨rfl,rfl⟩
theorem ListAt.of_row {α:Type}{w:World}{e:TypeId}{k:Nat}{f:α→List Value}(E:Enc k f){b:Nat}{l:List α}{cs:Array Value}(h:Row w b e cs)(hc:cs.toList=l.flatMap f):ListAt w e k f (some ⟨b,0,none⟩) l:=fun _=>⟨b,0,cs,rfl,h,fun i hi j hj=>by
 rw[Nat.zero_add,←Array.getElem?_toList,hc,flat_get E hi hj]⟩
theorem encBoolC:Enc 1 boolC:=⟨by omega,fun _=>rfl,fun p u hu=>by obtain rfl:=List.mem_singleton.1 hu;rfl⟩
/-- A function that sums these numbers. -/
def BitsFn (w:World)(ns:List Nat)(v:Value):Prop:=∃bx b,v= .func (.func 160) #[] #[.pointer (some ⟨bx,0,none⟩)]∧Row w bx 26 #[.slice (some ⟨b,0,none⟩) ns.length ns.length]∧ListAt w 3 1 intC (some ⟨b,0,none⟩) (ns.map fun n:Nat=>(n:Int))
set_option maxRecDepth 100000 in
set_option maxHeartbeats 2000000 in
theorem pkConnects_any (p:Pk)(sw sc sf:Value)(w:World)(hq:0≤p.wq∧p.wq≤3):Calls Tryz.prog 130 #[pkV p sw sc sf] w fun e w' =>e= .returned (.int .i64 (pkConn p:Nat))∧Keeps w w' []:=by
 have HP:=zh (show((pkConn p:Nat):Int)=(bitSum [128,64,32,4,2] [p.hu,p.hp,p.wr,p.hw,p.cl]:Nat)+8*p.wq by
  unfold pkConn;simp only[bitSum];omega)
 have HB:=zh (bitSum_le [128,64,32,4,2] [p.hu,p.hp,p.wr,p.hw,p.cl]);obtain⟨R,hR⟩:∃R,((pkConn p:Nat):Int)=R:=⟨_,rfl⟩;rw[hR]at HP ⊢
 clear hR;have HQ:=zh hq;clear hq;obtain⟨k,dup,ret,q,t,b,id,c,cl,keep,hw,wt,wb,wq,wr,hu,hp,u,pw,pr,code,wants,codes,fs⟩:=p;simp only at HP HB HQ;have HW1:=zh (show IntKind.i64.wrap (8*wq)=8*wq from IntWalk.i64_in _ (by have:=HQ.out;omega));have HW2:=zh (show IntKind.i64.wrap (((bitSum [128,64,32,4,2] [hu,hp,wr,hw,cl]:Nat):Int)+8*wq)=R from(IntWalk.i64_in _ (by have:=HQ.out;have:=HB.out;simp only[List.sum_cons,List.sum_nil]at this;omega)).trans HP.out.symm);obtain⟨W0,hW0⟩:∃W,(w).alloc (.cells (zP k dup ret q t b id c cl keep hw wt wb wq wr hu hp u pw pr code sw sc sf) 29)=W:=⟨_,rfl⟩;have k0:Keeps (w) W0 []:=by rw[←hW0];exact Keeps.alloc _ _
 have r0:Row W0 (w).heap.size 29 (zP k dup ret q t b id c cl keep hw wt wb wq wr hu hp u pw pr code sw sc sf):=by rw[←hW0];exact Row.new _ _ _
 have HR:=zh (And.intro k0 r0);clear k0 r0
 go_enter Tryz.func130,Tryz.ntmps130
 go_upto_region 1 with fail
 clear hW0;have M0:=fun(W' :World) (hW:Keeps (W0) W' [])=>((HR.out.2).keeps hW).cell 0
 have M1:=fun(W' :World) (hW:Keeps (W0) W' [])=>((HR.out.2).keeps hW).cell 1
 have M2:=fun(W' :World) (hW:Keeps (W0) W' [])=>((HR.out.2).keeps hW).cell 2
 have M3:=fun(W' :World) (hW:Keeps (W0) W' [])=>((HR.out.2).keeps hW).cell 3
 have M4:=fun(W' :World) (hW:Keeps (W0) W' [])=>((HR.out.2).keeps hW).cell 4
 have M5:=fun(W' :World) (hW:Keeps (W0) W' [])=>((HR.out.2).keeps hW).cell 5
 have M6:=fun(W' :World) (hW:Keeps (W0) W' [])=>((HR.out.2).keeps hW).cell 6
 have M7:=fun(W' :World) (hW:Keeps (W0) W' [])=>((HR.out.2).keeps hW).cell 7
 have M8:=fun(W' :World) (hW:Keeps (W0) W' [])=>((HR.out.2).keeps hW).cell 8
 have M9:=fun(W' :World) (hW:Keeps (W0) W' [])=>((HR.out.2).keeps hW).cell 9
 have M10:=fun(W' :World) (hW:Keeps (W0) W' [])=>((HR.out.2).keeps hW).cell 10
 have M11:=fun(W' :World) (hW:Keeps (W0) W' [])=>((HR.out.2).keeps hW).cell 11
 have M12:=fun(W' :World) (hW:Keeps (W0) W' [])=>((HR.out.2).keeps hW).cell 12
 have M13:=fun(W' :World) (hW:Keeps (W0) W' [])=>((HR.out.2).keeps hW).cell 13
 have M14:=fun(W' :World) (hW:Keeps (W0) W' [])=>((HR.out.2).keeps hW).cell 14
 have M15:=fun(W' :World) (hW:Keeps (W0) W' [])=>((HR.out.2).keeps hW).cell 15
 have M16:=fun(W' :World) (hW:Keeps (W0) W' [])=>((HR.out.2).keeps hW).cell 16
 have M17:=fun(W' :World) (hW:Keeps (W0) W' [])=>((HR.out.2).keeps hW).cell 17
 have M18:=fun(W' :World) (hW:Keeps (W0) W' [])=>((HR.out.2).keeps hW).cell 18
 have M19:=fun(W' :World) (hW:Keeps (W0) W' [])=>((HR.out.2).keeps hW).cell 19
 have M20:=fun(W' :World) (hW:Keeps (W0) W' [])=>((HR.out.2).keeps hW).cell 20
 have M21:=fun(W' :World) (hW:Keeps (W0) W' [])=>((HR.out.2).keeps hW).cell 21
 have M22:=fun(W' :World) (hW:Keeps (W0) W' [])=>((HR.out.2).keeps hW).cell 22
 have M23:=fun(W' :World) (hW:Keeps (W0) W' [])=>((HR.out.2).keeps hW).cell 23
 simp only[zga,zgz,zgs]at M0 M1 M2 M3 M4 M5 M6 M7 M8 M9 M10 M11 M12 M13 M14 M15 M16 M17 M18 M19 M20 M21 M22 M23;have HK:=zh HR.out.1;clear HR;refine wp_region_tail KeepsAll _ 20 (by kernel_rfl) rfl (by kernel_rfl) (fun _=>Keeps.refl _ _) (fun _ _ _ h k=>h.trans k (by simp)) (Keeps.drew _) ?_;simp only[zts,ztz,zds,zdz];refine loose_has (fun v W' =>∃b,v= .slice (some ⟨b,0,none⟩) 5 5∧Row W' b 3 #[.int .i64 128,.int .i64 64,.int .i64 32,.int .i64 4,.int .i64 2]) (fun W vals hW hkn φ' hφ=> ?_) ?_
 ·simp only[knows]at hkn
  try simp only[and_true]at hkn
  clear hkn;refine⟨?_⟩;simp only[fill];go_simp;exact⟨Keeps.alloc _ _,hφ.out _ _ ⟨_,rfl,Row.new _ _ _⟩⟩
 simp only[addEnt];refine loose_has (fun v W' =>BitsFn W' [128,64,32,4,2] v) (fun W vals hW hkn φ' hφ=> ?_) ?_
 ·simp only[knows]at hkn
  try simp only[and_true]at hkn
  obtain⟨W1,q0,q1,b,hv,hrb⟩:=hkn (by decide);have HRB:=zh (hrb.keeps q1);clear q0 q1 hrb hkn;refine⟨?_⟩;simp only[fill];go_simp
  (refine looseUpon_calls ?_;exact(pkBits_any W (some ⟨b,0,none⟩) 5 5).mono (by rintro e w3 ⟨rfl,rfl⟩;exact⟨_,rfl,Keeps.alloc _ _,hφ.out _ _ ⟨_,b,rfl,Row.new _ _ _,ListAt.of_row encIntC (HRB.out.alloc _) rfl⟩⟩))
 simp only[addEnt];refine ls ?_;simp only[addEnt];apply loose_is
 ·intro W vals hW hkn
  simp only[knows]at hkn
  try simp only[and_true]at hkn
  clear hkn;have m0:=M15 W hW;refine⟨?_⟩;simp only[fill];go_simp
  first | exact⟨Keeps.refl _ _,rfl⟩ | exact⟨Keeps.alloc _ _,rfl⟩
 simp only[addEnt];refine ls ?_;simp only[addEnt];apply loose_is
 ·intro W vals hW hkn
  simp only[knows]at hkn
  try simp only[and_true]at hkn
  clear hkn;have m0:=M16 W hW;refine⟨?_⟩;simp only[fill];go_simp
  first | exact⟨Keeps.refl _ _,rfl⟩ | exact⟨Keeps.alloc _ _,rfl⟩
 iterate 2
  simp only[addEnt];refine ls ?_
 simp only[addEnt];apply loose_is
 ·intro W vals hW hkn
  simp only[knows]at hkn
  try simp only[and_true]at hkn
  clear hkn;have m0:=M14 W hW;refine⟨?_⟩;simp only[fill];go_simp
  first | exact⟨Keeps.refl _ _,rfl⟩ | exact⟨Keeps.alloc _ _,rfl⟩
 simp only[addEnt];refine ls ?_;simp only[addEnt];apply loose_is
 ·intro W vals hW hkn
  simp only[knows]at hkn
  try simp only[and_true]at hkn
  clear hkn;have m0:=M10 W hW;refine⟨?_⟩;simp only[fill];go_simp
  first | exact⟨Keeps.refl _ _,rfl⟩ | exact⟨Keeps.alloc _ _,rfl⟩
 simp only[addEnt];refine ls ?_;simp only[addEnt];apply loose_is
 ·intro W vals hW hkn
  simp only[knows]at hkn
  try simp only[and_true]at hkn
  clear hkn;have m0:=M8 W hW;refine⟨?_⟩;simp only[fill];go_simp
  first | exact⟨Keeps.refl _ _,rfl⟩ | exact⟨Keeps.alloc _ _,rfl⟩
 simp only[addEnt];refine loose_has (fun v W' =>∃b,v= .slice (some ⟨b,0,none⟩) 5 5∧Row W' b 4 #[.bool hu,.bool hp,.bool wr,.bool hw,.bool cl]) (fun W vals hW hkn φ' hφ=> ?_) ?_
 ·simp only[knows]at hkn
  try simp only[and_true]at hkn
  clear hkn;refine⟨?_⟩;simp only[fill];go_simp;exact⟨Keeps.alloc _ _,hφ.out _ _ ⟨_,rfl,Row.new _ _ _⟩⟩
 simp only[addEnt];apply loose_is
 ·intro W vals hW hkn
  simp only[knows]at hkn
  try simp only[and_true]at hkn
  obtain⟨⟨W1,q0,q1,b,hv,hrb⟩,⟨W2,q2,q3,bx,b2,hv2,hr2,hl2⟩⟩:=And.intro (hkn.1 (by decide)) (hkn.2.1 (by decide));have HRB:=zh (hrb.keeps q1);have HF:=zh (And.intro (hr2.keeps q3) (hl2.keeps q3));clear q0 q1 hrb hkn q2 q3 hr2 hl2;refine⟨?_⟩;simp only[fill];go_simp;refine looseUpon_calls ?_;exact(pkBits1_any W (some ⟨b,0,none⟩) (some ⟨b2,0,none⟩) 5 5 bx [128,64,32,4,2] [hu,hp,wr,hw,cl] HF.out.1 (ListAt.of_row encBoolC HRB.out rfl) HF.out.2 rfl (by decide) (by decide)).mono (by rintro e w3 ⟨rfl,hk⟩;exact⟨_,rfl,hk,rfl⟩)
 iterate 2
  simp only[addEnt];refine ls ?_
 simp only[addEnt];apply loose_is
 ·intro W vals hW hkn
  simp only[knows]at hkn
  try simp only[and_true]at hkn
  clear hkn;have m0:=M13 W hW;refine⟨?_⟩;simp only[fill];go_simp
  first | exact⟨Keeps.refl _ _,rfl⟩ | exact⟨Keeps.alloc _ _,rfl⟩
 simp only[addEnt];apply loose_is
 ·intro W vals hW hkn
  simp only[knows]at hkn
  try simp only[and_true]at hkn
  clear hkn;have m0:=HW1.out;refine⟨?_⟩;simp only[fill];go_simp
  first | exact⟨Keeps.refl _ _,rfl⟩ | exact⟨Keeps.alloc _ _,rfl⟩
 simp only[addEnt];apply loose_is
 ·intro W vals hW hkn
  simp only[knows]at hkn
  try simp only[and_true]at hkn
  clear hkn;have m0:=HW2.out;refine⟨?_⟩;simp only[fill];go_simp
  first | exact⟨Keeps.refl _ _,rfl⟩ | exact⟨Keeps.alloc _ _,rfl⟩
 simp only[addEnt];refine loose_nil (fun W vals hW hkn=> ?_);simp only[knowsAll]at hkn
 try simp only[and_true]at hkn
 simp only[fill,Act.put,zsa,zsc,zsz]
 go_wp2_with fail
 go_ret;exact⟨rfl,HK.out.then_ hW⟩
/-- A publish's flags. -/
theorem pkPub_bits (p:Pk)(hq:0≤p.q):((pkPub p:Nat):Int)=(bitSum [8,1] [p.dup,p.ret]:Nat)+2*p.q:=by
 unfold pkPub;simp only[bitSum];omega
set_option maxRecDepth 100000 in
set_option maxHeartbeats 2000000 in
theorem pkFlags3_any (p:Pk)(sw sc sf:Value)(w:World)(hq:0≤p.q∧p.q≤3):Calls Tryz.prog 134 #[pkV p sw sc sf] w fun e w' =>e= .returned (.int .i64 (pkPub p:Nat))∧Keeps w w' []:=by
 have HP:=zh (pkPub_bits p hq.1);have HB:=zh (bitSum_le [8,1] [p.dup,p.ret]);obtain⟨R,hR⟩:∃R,((pkPub p:Nat):Int)=R:=⟨_,rfl⟩;rw[hR]at HP ⊢
 clear hR;have HQ:=zh hq;clear hq;obtain⟨k,dup,ret,q,t,b,id,c,cl,keep,hw,wt,wb,wq,wr,hu,hp,u,pw,pr,code,wants,codes,fs⟩:=p;simp only at HP HB HQ;have HW1:=zh (show IntKind.i64.wrap (2*q)=2*q from IntWalk.i64_in _ (by have:=HQ.out;omega));have HW2:=zh (show IntKind.i64.wrap (((bitSum [8,1] [dup,ret]:Nat):Int)+2*q)=R from(IntWalk.i64_in _ (by have:=HQ.out;have:=HB.out;simp only[List.sum_cons,List.sum_nil]at this;omega)).trans HP.out.symm);obtain⟨W0,hW0⟩:∃W,(w).alloc (.cells (zP k dup ret q t b id c cl keep hw wt wb wq wr hu hp u pw pr code sw sc sf) 29)=W:=⟨_,rfl⟩;have k0:Keeps (w) W0 []:=by rw[←hW0];exact Keeps.alloc _ _
 have r0:Row W0 (w).heap.size 29 (zP k dup ret q t b id c cl keep hw wt wb wq wr hu hp u pw pr code sw sc sf):=by rw[←hW0];exact Row.new _ _ _
 have HR:=zh (And.intro k0 r0);clear k0 r0
 go_enter Tryz.func134,Tryz.ntmps134
 go_upto_region 1 with fail
 clear hW0;have M0:=fun(W' :World) (hW:Keeps (W0) W' [])=>((HR.out.2).keeps hW).cell 0
 have M1:=fun(W' :World) (hW:Keeps (W0) W' [])=>((HR.out.2).keeps hW).cell 1
 have M2:=fun(W' :World) (hW:Keeps (W0) W' [])=>((HR.out.2).keeps hW).cell 2
 have M3:=fun(W' :World) (hW:Keeps (W0) W' [])=>((HR.out.2).keeps hW).cell 3
 have M4:=fun(W' :World) (hW:Keeps (W0) W' [])=>((HR.out.2).keeps hW).cell 4
 have M5:=fun(W' :World) (hW:Keeps (W0) W' [])=>((HR.out.2).keeps hW).cell 5
 have M6:=fun(W' :World) (hW:Keeps (W0) W' [])=>((HR.out.2).keeps hW).cell 6
 have M7:=fun(W' :World) (hW:Keeps (W0) W' [])=>((HR.out.2).keeps hW).cell 7
 have M8:=fun(W' :World) (hW:Keeps (W0) W' [])=>((HR.out.2).keeps hW).cell 8
 have M9:=fun(W' :World) (hW:Keeps (W0) W' [])=>((HR.out.2).keeps hW).cell 9
 have M10:=fun(W' :World) (hW:Keeps (W0) W' [])=>((HR.out.2).keeps hW).cell 10
 have M11:=fun(W' :World) (hW:Keeps (W0) W' [])=>((HR.out.2).keeps hW).cell 11
 have M12:=fun(W' :World) (hW:Keeps (W0) W' [])=>((HR.out.2).keeps hW).cell 12
 have M13:=fun(W' :World) (hW:Keeps (W0) W' [])=>((HR.out.2).keeps hW).cell 13
 have M14:=fun(W' :World) (hW:Keeps (W0) W' [])=>((HR.out.2).keeps hW).cell 14
 have M15:=fun(W' :World) (hW:Keeps (W0) W' [])=>((HR.out.2).keeps hW).cell 15
 have M16:=fun(W' :World) (hW:Keeps (W0) W' [])=>((HR.out.2).keeps hW).cell 16
 have M17:=fun(W' :World) (hW:Keeps (W0) W' [])=>((HR.out.2).keeps hW).cell 17
 have M18:=fun(W' :World) (hW:Keeps (W0) W' [])=>((HR.out.2).keeps hW).cell 18
 have M19:=fun(W' :World) (hW:Keeps (W0) W' [])=>((HR.out.2).keeps hW).cell 19
 have M20:=fun(W' :World) (hW:Keeps (W0) W' [])=>((HR.out.2).keeps hW).cell 20
 have M21:=fun(W' :World) (hW:Keeps (W0) W' [])=>((HR.out.2).keeps hW).cell 21
 have M22:=fun(W' :World) (hW:Keeps (W0) W' [])=>((HR.out.2).keeps hW).cell 22
 have M23:=fun(W' :World) (hW:Keeps (W0) W' [])=>((HR.out.2).keeps hW).cell 23
 simp only[zga,zgz,zgs]at M0 M1 M2 M3 M4 M5 M6 M7 M8 M9 M10 M11 M12 M13 M14 M15 M16 M17 M18 M19 M20 M21 M22 M23;have HK:=zh HR.out.1;clear HR;refine wp_region_tail KeepsAll _ 12 (by kernel_rfl) rfl (by kernel_rfl) (fun _=>Keeps.refl _ _) (fun _ _ _ h k=>h.trans k (by simp)) (Keeps.drew _) ?_;simp only[zts,ztz,zds,zdz];refine loose_has (fun v W' =>∃b,v= .slice (some ⟨b,0,none⟩) 2 2∧Row W' b 3 #[.int .i64 8,.int .i64 1]) (fun W vals hW hkn φ' hφ=> ?_) ?_
 ·simp only[knows]at hkn
  try simp only[and_true]at hkn
  clear hkn;refine⟨?_⟩;simp only[fill];go_simp;exact⟨Keeps.alloc _ _,hφ.out _ _ ⟨_,rfl,Row.new _ _ _⟩⟩
 simp only[addEnt];refine loose_has (fun v W' =>BitsFn W' [8,1] v) (fun W vals hW hkn φ' hφ=> ?_) ?_
 ·simp only[knows]at hkn
  try simp only[and_true]at hkn
  obtain⟨W1,q0,q1,b,hv,hrb⟩:=hkn (by decide);have HRB:=zh (hrb.keeps q1);clear q0 q1 hrb hkn;refine⟨?_⟩;simp only[fill];go_simp
  (refine looseUpon_calls ?_;exact(pkBits_any W (some ⟨b,0,none⟩) 2 2).mono (by rintro e w3 ⟨rfl,rfl⟩;exact⟨_,rfl,Keeps.alloc _ _,hφ.out _ _ ⟨_,b,rfl,Row.new _ _ _,ListAt.of_row encIntC (HRB.out.alloc _) rfl⟩⟩))
 simp only[addEnt];refine ls ?_;simp only[addEnt];apply loose_is
 ·intro W vals hW hkn
  simp only[knows]at hkn
  try simp only[and_true]at hkn
  clear hkn;have m0:=M1 W hW;refine⟨?_⟩;simp only[fill];go_simp
  first | exact⟨Keeps.refl _ _,rfl⟩ | exact⟨Keeps.alloc _ _,rfl⟩
 simp only[addEnt];refine ls ?_;simp only[addEnt];apply loose_is
 ·intro W vals hW hkn
  simp only[knows]at hkn
  try simp only[and_true]at hkn
  clear hkn;have m0:=M2 W hW;refine⟨?_⟩;simp only[fill];go_simp
  first | exact⟨Keeps.refl _ _,rfl⟩ | exact⟨Keeps.alloc _ _,rfl⟩
 simp only[addEnt];refine loose_has (fun v W' =>∃b,v= .slice (some ⟨b,0,none⟩) 2 2∧Row W' b 4 #[.bool dup,.bool ret]) (fun W vals hW hkn φ' hφ=> ?_) ?_
 ·simp only[knows]at hkn
  try simp only[and_true]at hkn
  clear hkn;refine⟨?_⟩;simp only[fill];go_simp;exact⟨Keeps.alloc _ _,hφ.out _ _ ⟨_,rfl,Row.new _ _ _⟩⟩
 simp only[addEnt];apply loose_is
 ·intro W vals hW hkn
  simp only[knows]at hkn
  try simp only[and_true]at hkn
  obtain⟨⟨W1,q0,q1,b,hv,hrb⟩,⟨W2,q2,q3,bx,b2,hv2,hr2,hl2⟩⟩:=And.intro (hkn.1 (by decide)) (hkn.2.1 (by decide));have HRB:=zh (hrb.keeps q1);have HF:=zh (And.intro (hr2.keeps q3) (hl2.keeps q3));clear q0 q1 hrb hkn q2 q3 hr2 hl2;refine⟨?_⟩;simp only[fill];go_simp;refine looseUpon_calls ?_;exact(pkBits1_any W (some ⟨b,0,none⟩) (some ⟨b2,0,none⟩) 2 2 bx [8,1] [dup,ret] HF.out.1 (ListAt.of_row encBoolC HRB.out rfl) HF.out.2 rfl (by decide) (by decide)).mono (by rintro e w3 ⟨rfl,hk⟩;exact⟨_,rfl,hk,rfl⟩)
 simp only[addEnt];refine ls ?_;simp only[addEnt];apply loose_is
 ·intro W vals hW hkn
  simp only[knows]at hkn
  try simp only[and_true]at hkn
  clear hkn;have m0:=M3 W hW;refine⟨?_⟩;simp only[fill];go_simp
  first | exact⟨Keeps.refl _ _,rfl⟩ | exact⟨Keeps.alloc _ _,rfl⟩
 simp only[addEnt];apply loose_is
 ·intro W vals hW hkn
  simp only[knows]at hkn
  try simp only[and_true]at hkn
  clear hkn;have m0:=HW1.out;refine⟨?_⟩;simp only[fill];go_simp
  first | exact⟨Keeps.refl _ _,rfl⟩ | exact⟨Keeps.alloc _ _,rfl⟩
 simp only[addEnt];apply loose_is
 ·intro W vals hW hkn
  simp only[knows]at hkn
  try simp only[and_true]at hkn
  clear hkn;have m0:=HW2.out;refine⟨?_⟩;simp only[fill];go_simp
  first | exact⟨Keeps.refl _ _,rfl⟩ | exact⟨Keeps.alloc _ _,rfl⟩
 simp only[addEnt];refine loose_nil (fun W vals hW hkn=> ?_);simp only[knowsAll]at hkn
 try simp only[and_true]at hkn
 simp only[fill,Act.put,zsa,zsc,zsz]
 go_wp2_with fail
 go_ret;exact⟨rfl,HK.out.then_ hW⟩

section
variable {P:Program}
/-- The order as it is written is one of those that may be drawn. -/
def lineB (ops:Array Oper):Bool:=decide (Region.linearise.go .any ops ops.size 0 (Array.replicate ops.size false) []=List.range ops.size)
theorem wp_region_line {id:Nat}{Q:Exit→Act→World→Prop}{a:Act}{w:World}{l:List Oper}(R:World→World→Prop)(n n0:Nat)(hn:a.tmps.size=n)
  (hB:(looseB n l.toArray && Region.sinkB .any l.toArray n0 && Region.chainB .any l.toArray n0 && decide (n0 < l.length) && Region.seqB .any l.toArray (l.drop n0).length n0 ((Array.range l.toArray.size).map fun k=>decide (k < n0)) && decide (unlisted ((Array.range l.toArray.size).map fun k=>decide (k < n0))=(l.drop n0).length))=true)
  (hL:lineB l.toArray=true)
  (hrf:∀x,R x x) (htr:∀x y z,R x y→R y z→R x z)
  (h:wpLoose P R w l.toArray a (fun env=>∀W vals,R w W→knowsAll R w vals W env→wpList P l.toArray Q (l.drop n0) (fill vals env a) W) (l.take n0) []):(Code.region id l.toArray false).wp P Q a w:=by
 simp only[Bool.and_eq_true,decide_eq_true_eq]at hB;obtain⟨⟨⟨⟨⟨h1,h2⟩,h3⟩,h4⟩,h5⟩,h6⟩:=hB;obtain⟨E,c,rd,φ,e0,hs,hq⟩:=wpLoose_table_more n0 l (by omega) h;refine wp_region ?_;rw[←of_decide_eq_true hL];refine wpAny_sound _ 0 _ a w (loose_tail_sound (w0:=w) (n0:=n0) (lt:=l.drop n0) htr hrf h1 h2 h3 (by simpa using h4) (fun j=>by simp) h5 h6 hn e0 (fun k o ho=>hs k o (by simpa using ho)) hq _ _ _ _ ?_ (fun t ht ht' => ?_) ⟨hrf w,rfl,rfl,by simp,fun _ _=>rfl,fun k o d ho _ hk=> ?_,fun k o ho _ hk=> ?_,fun k o ho hk=> ?_⟩)
 ·unfold unlisted
  simp
 ·simp only[List.size_toArray]at ht'
  simp[ht']
 all_goals
  exfalso
  by_cases h' :k < l.length <;> simp[h']at hk
end
end Go.Proofs.YtahbikfbjenfpaaGreatDoor

namespace Go.Proofs.YtahbikfbjenfpaaGreatDoor
open Go

theorem pk_kinds {k:Int}(h:pkIn k 1 14=true):k=1∨k=2∨k=3∨k=8∨k=9∨k=10∨(k=12∨k=13∨k=14)∨(k=4∨k=5∨k=6∨k=7∨k=11):=by
 rw[pkIn_iff]at h;omega
theorem pkOk_parts {p:Pk}(h:pkOk p=true):pkIn p.k 1 14=true∧pkMay p=true∧pkAlone p=p:=by
 unfold pkOk at h;simp only[Bool.and_eq_true,decide_eq_true_eq]at h;exact h
theorem pkId_fit {p:Pk}(h:pkId p=true):1≤p.id∧p.id≤65535:=pkIn_iff.1 h
/-- What a packet that may be has, kind by kind. -/
structure PkFit1 (p:Pk):Prop where
 c:p.c.length≤23
 keep:0≤p.keep∧p.keep≤65535
 will:p.wt.length≤200∧p.wb.length≤2000∧0≤p.wq∧p.wq≤2
 nw:p.hw=false→p.wt= []∧p.wb= []∧p.wq=0∧p.wr=false
 u:p.u.length≤200∧(p.hu=false→p.u= []∧p.hp=false)
 pw:p.pw.length≤200∧(p.hp=false→p.pw= [])
theorem pk_fit1 {p:Pk}(hk:p.k=1)(h:pkMay p=true):PkFit1 p:=by
 unfold pkMay at h;rw[if_pos hk]at h;simp only[Bool.and_eq_true]at h;obtain⟨h1,h2,h3,h4,h5,h6⟩:=h;have hw:(p.wt.length≤200∧p.wb.length≤2000∧0≤p.wq∧p.wq≤2)∧(p.hw=false→p.wt= []∧p.wb= []∧p.wq=0∧p.wr=false):=by
  unfold pkWill at h4
  cases hw:p.hw with
  | true=>
   rw[hw,if_pos rfl]at h4;simp only[Bool.and_eq_true,decide_eq_true_eq]at h4;have:=tName_le h4.1;have:=pkIn_iff.1 h4.2.2;exact⟨⟨by omega,by omega,by omega,by omega⟩,fun e=>by cases e⟩
  | false=>
   rw[hw,if_neg (by simp)]at h4;simp only[Bool.and_eq_true,List.isEmpty_iff,beq_iff_eq,Bool.not_eq_true']at h4;obtain⟨e1,e2,e3,e4⟩:=h4;exact⟨⟨by rw[e1];simp,by rw[e2];simp,by omega,by omega⟩,fun _=>⟨e1,e2,e3,e4⟩⟩
 have hu:p.u.length≤200∧(p.hu=false→p.u= []∧p.hp=false):=by
  unfold pkUser at h5
  cases hu:p.hu with
  | true=>
   rw[hu,if_pos rfl]at h5;exact⟨pkSaid_le h5,fun e=>by cases e⟩
  | false=>
   rw[hu,if_neg (by simp)]at h5;simp only[Bool.and_eq_true,List.isEmpty_iff,Bool.not_eq_true']at h5;exact⟨by rw[h5.1];simp,fun _=>h5⟩
 have hp:p.pw.length≤200∧(p.hp=false→p.pw= []):=by
  unfold pkPass at h6
  cases hp:p.hp with
  | true=>
   rw[hp,if_pos rfl,decide_eq_true_eq]at h6;exact⟨h6,fun e=>by cases e⟩
  | false=>
   rw[hp,if_neg (by simp),List.isEmpty_iff]at h6;exact⟨by rw[h6];simp,fun _=>h6⟩
 exact⟨pkSaid_le h1,pkIn_iff.1 h3,hw.1,hw.2,hu,hp⟩
theorem pk_fit2 {p:Pk}(hk:p.k=2)(h:pkMay p=true):0≤p.code∧p.code≤5:=by
 unfold pkMay at h;rw[if_neg (by omega),if_pos hk,Bool.and_eq_true]at h;exact pkIn_iff.1 h.1
theorem pk_fit3 {p:Pk}(hk:p.k=3)(h:pkMay p=true):p.t.length≤200∧p.b.length≤2000∧(0≤p.q∧p.q≤2)∧(0≤p.id∧p.id≤65535)∧(p.q=0→p.id=0∧p.dup=false):=by
 unfold pkMay at h;rw[if_neg (by omega),if_neg (by omega),if_pos hk]at h;simp only[Bool.and_eq_true,decide_eq_true_eq]at h;obtain⟨h1,h2,h3,h4⟩:=h;have h3:=pkIn_iff.1 h3;refine⟨tName_le h1,h2,h3, ?_⟩
 by_cases hq:p.q=0
 ·rw[if_pos hq]at h4
  simp only[Bool.and_eq_true,beq_iff_eq,Bool.not_eq_true']at h4;exact⟨by omega,fun _=>h4⟩
 ·rw[if_neg hq]at h4
  have:=pkId_fit h4;exact⟨by omega,fun e=>absurd e hq⟩
theorem pkMany_parts {α:Type}{l:List α}{is:α→Bool}(h:pkMany l is=true):1≤l.length∧l.length≤8∧∀x∈l,is x=true:=by
 unfold pkMany at h;simp only[Bool.and_eq_true,decide_eq_true_eq]at h;exact⟨h.1,h.2.1,List.all_eq_true.1 h.2.2⟩
theorem pk_fit8 {p:Pk}(hk:p.k=8)(h:pkMay p=true):(1≤p.id∧p.id≤65535)∧1≤p.wants.length∧p.wants.length≤8∧∀w∈p.wants,w.1.length≤200∧0≤w.2∧w.2≤2:=by
 unfold pkMay at h;rw[if_neg (by omega),if_neg (by omega),if_neg (by omega),if_pos hk,Bool.and_eq_true]at h;obtain⟨h1,h2,h3⟩:=pkMany_parts h.2;refine⟨pkId_fit h.1,h1,h2,fun w hw=> ?_⟩;have:=h3 w hw;rw[Bool.and_eq_true]at this;have h5:=pkIn_iff.1 this.2;exact⟨tFilter_le this.1,h5.1,h5.2⟩
theorem pk_fit9 {p:Pk}(hk:p.k=9)(h:pkMay p=true):(1≤p.id∧p.id≤65535)∧1≤p.codes.length∧p.codes.length≤8∧∀c∈p.codes,0≤c∧c≤255:=by
 unfold pkMay at h;rw[if_neg (by omega),if_neg (by omega),if_neg (by omega),if_neg (by omega),if_pos hk,Bool.and_eq_true]at h;obtain⟨h1,h2,h3⟩:=pkMany_parts h.2;refine⟨pkId_fit h.1,h1,h2,fun w hw=> ?_⟩;have:=h3 w hw;rw[Bool.or_eq_true,beq_iff_eq,pkIn_iff]at this;omega
theorem pk_fit10 {p:Pk}(hk:p.k=10)(h:pkMay p=true):(1≤p.id∧p.id≤65535)∧1≤p.fs.length∧p.fs.length≤8∧∀f∈p.fs,f.length≤200:=by
 unfold pkMay at h;rw[if_neg (by omega),if_neg (by omega),if_neg (by omega),if_neg (by omega),if_neg (by omega),if_pos hk,Bool.and_eq_true]at h;obtain⟨h1,h2,h3⟩:=pkMany_parts h.2;exact⟨pkId_fit h.1,h1,h2,fun w hw=>tFilter_le (h3 w hw)⟩
theorem pk_fit4 {p:Pk}(hk:p.k=4∨p.k=5∨p.k=6∨p.k=7∨p.k=11)(h:pkMay p=true):1≤p.id∧p.id≤65535:=by
 unfold pkMay at h;rw[if_neg (by omega),if_neg (by omega),if_neg (by omega),if_neg (by omega),if_neg (by omega),if_neg (by omega),if_neg (by omega)]at h;exact pkId_fit h
theorem pkB_le (b:Bool)(n:Nat):pkB b n≤n:=by cases b <;> simp[pkB]
theorem pkF_lt {p:Pk}(h:pkOk p=true):pkF p < 16:=by
 obtain⟨_,h2,_⟩:=pkOk_parts h;unfold pkF
 split
 ·rename_i hk
  have:=(pk_fit3 hk h2).2.2.1;unfold pkPub;have:=pkB_le p.dup 8;have:=pkB_le p.ret 1;omega
 ·split <;> omega
theorem pkTx_length (s:List UInt8):(pkTx s).length=2+s.length:=by
 unfold pkTx;rw[List.length_append,toBE_length]
theorem pkIf_length (b:Bool)(l:List UInt8):(pkIf b l).length≤l.length:=by cases b <;> simp[pkIf]
theorem flat_len {α:Type}{f:α→List UInt8}{m:Nat}:∀{l:List α},(∀x∈l,(f x).length≤m)→(l.flatMap f).length≤l.length*m
 | [],_=>by simp
 | a::l,h=>by
  have h1:=h a (by simp);have h2:=flat_len (l:=l) (fun x hx=>h x (by simp[hx]));rw[List.flatMap_cons,List.length_append,List.length_cons,Nat.add_mul];omega
theorem pkBody_len {p:Pk}(h:pkOk p=true):(pkBody p).length≤5000:=by
 obtain⟨h1,h2,_⟩:=pkOk_parts h;unfold pkBody
 rcases pk_kinds h1 with e | e | e | e | e | e | e | e
 ·have f:=pk_fit1 e h2
  rw[if_pos e];simp only[List.length_append,pkTx_length,pkTwo,pkOne,toBE_length,List.length_cons,List.length_nil];have a1:=pkIf_length p.hw (pkTx p.wt++pkTx p.wb);have a2:=pkIf_length p.hu (pkTx p.u);have a3:=pkIf_length p.hp (pkTx p.pw);simp only[List.length_append,pkTx_length]at a1 a2 a3;have:=f.c;have:=f.will;have:=f.u.1;have:=f.pw.1;omega
 ·rw[if_neg (by omega),if_pos e]
  simp[pkOne,toBE_length]
 ·have f:=pk_fit3 e h2
  rw[if_neg (by omega),if_neg (by omega),if_pos e];have a1:=pkIf_length (decide (0 < p.q)) (pkTwo p.id);simp only[pkTwo,toBE_length]at a1;simp only[List.length_append,pkTx_length,pkTwo];omega
 ·have f:=pk_fit8 e h2
  rw[if_neg (by omega),if_neg (by omega),if_neg (by omega),if_pos e,List.length_append];have:=flat_len (f:=fun w:List UInt8×Int=>pkTx w.1++pkOne w.2.toNat) (m:=203) (l:=p.wants) (fun w hw=>by
   have:=(f.2.2.2 w hw).1;rw[List.length_append,pkTx_length];simp only[pkOne,toBE_length];omega)
  simp only[pkTwo,toBE_length];omega
 ·have f:=pk_fit9 e h2
  rw[if_neg (by omega),if_neg (by omega),if_neg (by omega),if_neg (by omega),if_pos e,List.length_append];have:=flat_len (f:=fun c:Int=>pkOne c.toNat) (m:=1) (l:=p.codes) (fun w hw=>by simp[pkOne,toBE_length]);simp only[pkTwo,toBE_length];omega
 ·have f:=pk_fit10 e h2
  rw[if_neg (by omega),if_neg (by omega),if_neg (by omega),if_neg (by omega),if_neg (by omega),if_pos e,List.length_append];have:=flat_len (f:=pkTx) (m:=202) (l:=p.fs) (fun w hw=>by
   have:=f.2.2.2 w hw;rw[pkTx_length];omega)
  simp only[pkTwo,toBE_length];omega
 ·rw[if_neg (by omega),if_neg (by omega),if_neg (by omega),if_neg (by omega),if_neg (by omega),if_neg (by omega),if_pos e]
  simp
 ·rw[if_neg (by omega),if_neg (by omega),if_neg (by omega),if_neg (by omega),if_neg (by omega),if_neg (by omega),if_neg (by omega)]
  simp[pkTwo,toBE_length]
/-- What the first bytes tell. -/
theorem pk_head {p:Pk}(h:pkOk p=true)(r:List UInt8):∃x l s,pkRaw p++r=x::l∧x.toNat / 16=p.k.toNat∧x.toNat % 16=pkF p∧lnRd l=some (some ((pkBody p).length,s))∧l.drop s=pkBody p++r∧l.length=s+(pkBody p).length+r.length∧s≤4:=by
 have hf:=pkF_lt h;have hb:=pkBody_len h;have hk:=pkIn_iff.1 (pkOk_parts h).1;have hx:(lnB (16*p.k.toNat+pkF p)).toNat=16*p.k.toNat+pkF p:=lnB_val (by omega);refine⟨lnB (16*p.k.toNat+pkF p),lnRaw (pkBody p).length++pkBody p++r,lnSize (pkBody p).length,by simp[pkRaw],by omega,by omega, ?_, ?_, ?_,(lnSize_le _).2⟩
 ·rw[List.append_assoc]
  exact lnRd_raw (by omega) _
 ·rw[List.append_assoc]
  exact(take_front (lnRaw_length _)).2
 ·rw[List.length_append,List.length_append,lnRaw_length]
theorem be_inj {k m n:Nat}{r r' :List UInt8}(hm:m < 256^k)(hn:n < 256^k)(h:toBE k m++r=toBE k n++r'):m=n∧r=r' :=by
 have h1:=rdN_app hm r;rw[h,rdN_app hn r']at h1;injection h1 with h1
 injection h1 with e1 e2
 exact⟨e1.symm,e2.symm⟩
theorem tx_inj {a b r r' :List UInt8}(ha:a.length < 65536)(hb:b.length < 65536)(h:pkTx a++r=pkTx b++r'):a=b∧r=r' :=by
 have h1:=rdTx_app ha r;unfold pkTx at h;rw[h,rdTx_app hb r']at h1;injection h1 with h1
 injection h1 with e1 e2
 exact⟨e1.symm,e2.symm⟩
theorem flat_inj {α:Type}{f:α→List UInt8}{P:α→Prop}(hne:∀a,f a≠ [])(hin:∀a b r r',P a→P b→f a++r=f b++r' →a=b∧r=r'):∀{l l' :List α},(∀x∈l,P x)→(∀x∈l',P x)→l.flatMap f=l'.flatMap f→l=l'
 | [], [],_,_,_=>rfl
 | [],b::l',_,_,h=>by
  rw[List.flatMap_nil,List.flatMap_cons]at h;have:=congrArg List.length h;rw[List.length_append,List.length_nil]at this;exact absurd (List.length_eq_zero_iff.1 (by omega)) (hne b)
 | a::l, [],_,_,h=>by
  rw[List.flatMap_nil,List.flatMap_cons]at h;have:=congrArg List.length h;rw[List.length_append,List.length_nil]at this;exact absurd (List.length_eq_zero_iff.1 (by omega)) (hne a)
 | a::l,b::l',h1,h2,h=>by
  rw[List.flatMap_cons,List.flatMap_cons]at h;obtain⟨e1,e2⟩:=hin a b _ _ (h1 a (by simp)) (h2 b (by simp)) h;rw[e1,flat_inj hne hin (fun x hx=>h1 x (by simp[hx])) (fun x hx=>h2 x (by simp[hx])) e2]
end Go.Proofs.YtahbikfbjenfpaaGreatDoor
