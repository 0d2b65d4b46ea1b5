/- The reference of packets: said, connect. The reference of packets: Right. -/
import Derived.Test.YtahbikfbjenfpaaGreatDoorPa44
import Derived.Test.YtahbikfbjenfpaaGreatDoorPa55
import Derived.Deep.DeepCutAuto
import Derived.Test.YtahbikfbjenfpaaGreatDoorPa53

namespace Go.Proofs.YtahbikfbjenfpaaGreatDoor
open Go.RowKit Go.Shelf

set_option maxRecDepth 100000 in
set_option maxHeartbeats 1000000 in
theorem rfSaid_any (w:World)(s:List UInt8)(n:Nat)(hs:s.length≤60000):Calls Tryz.prog 92 #[.string ⟨s.toArray⟩,.int .i64 (n:Int)] w (TruePost w (pkSaid s n)):=by
 obtain⟨S,hS⟩:∃S:ByteArray,(⟨s.toArray⟩:ByteArray)=S:=⟨_,rfl⟩;have hz:S.size=s.length:=by rw[←hS];rfl
 have HR:=zh (show∀w:World,Calls Tryz.prog 147 #[.string S] w (RnPost w s)from fun w=>by
  rw[←hS];exact rRunes_any w s hs)
 rw[hS];clear hS
 by_cases h2:n < s.length
 ·have HT:=zh (show pkSaid s n=false by unfold pkSaid;rw[decide_eq_false (by omega)];rfl)
  go_enter Tryz.func92,Tryz.ntmps92
  go_wp2_with fail
  go_ret;exact⟨by rw[HT.out];rfl,Keeps.refl _ _⟩
 ·have HT:=zh (show pkSaid s n=uGood s by
   unfold pkSaid;rw[decide_eq_true (by omega)];rfl)
  have hq:¬(s.length:Int) > (n:Int):=by omega
  clear h2
  go_enter Tryz.func92,Tryz.ntmps92
  go_wp2_with fail
  refine(HR.out _).mono ?_;rintro e w1 ⟨v,a,rfl,ha,hk⟩;have HK:=zh hk;clear hk
  cases hg:uGood s with
  | true=>
   rw[hg,if_pos rfl]at ha;subst ha;rw[hg]at HT;clear hg
   go_wp2_with fail
   go_ret;exact⟨by rw[HT.out];rfl,HK.out⟩
  | false=>
   rw[hg,if_neg (by simp)]at ha;rw[hg]at HT;have hb:decide (a < 0)=false:=decide_eq_false (by omega);clear hg ha
   go_wp2_with fail
   go_ret;exact⟨by rw[HT.out];rfl,HK.out⟩
/-- What connect is told: its texts by their bytes alone. -/
structure CnIn (w:World)(p:Pk)(X:Array Value)(C WT WB U PW:ByteArray)(s1 s2 nm:Bool):Prop where
 c7:X[7]? =some (.string C)
 c8:X[8]? =some (.bool p.cl)
 c9:X[9]? =some (.int .i64 p.keep)
 c10:X[10]? =some (.bool p.hw)
 c11:X[11]? =some (.string WT)
 c12:X[12]? =some (.string WB)
 c13:X[13]? =some (.int .i64 p.wq)
 c14:X[14]? =some (.bool p.wr)
 c15:X[15]? =some (.bool p.hu)
 c16:X[16]? =some (.bool p.hp)
 c17:X[17]? =some (.string U)
 c18:X[18]? =some (.string PW)
 e7:C.toList=p.c
 e11:WT.toList=p.wt
 e12:WB.toList=p.wb∧WB.size=p.wb.length
 e17:U.toList=p.u
 e18:PW.toList=p.pw∧PW.size=p.pw.length
 sc:∀W,Calls Tryz.prog 92 #[.string C,.int .i64 23] W (TruePost W s1)
 su:∀W,Calls Tryz.prog 92 #[.string U,.int .i64 200] W (TruePost W s2)
 nm:∀W,Calls Tryz.prog 27 #[.string WT] W fun e w' =>e= .returned (.bool nm)∧Keeps W w' []
set_option maxRecDepth 100000 in
set_option maxHeartbeats 4000000 in
theorem connect_walk (p:Pk)(X:Array Value)(C WT WB U PW:ByteArray)(s1 s2 nm z1 z2 z3 z4:Bool)(w:World)(h:CnIn w p X C WT WB U PW s1 s2 nm)
  (hz1:(!s1 || ((C.toList.isEmpty && !p.cl) || (decide (p.keep < 0) || decide (65535 < p.keep))))=z1)
  (hz2:((p.hw && (!nm || (decide (2000 < (WB.size:Int)) || (decide (p.wq < 0) || decide (2 < p.wq))))) || (!p.hw && !(WT.toList.isEmpty && (WB.toList.isEmpty && (decide (p.wq=0) && !p.wr)))))=z2)
  (hz3:((p.hu && !s2) || (!p.hu && (!U.toList.isEmpty || p.hp)))=z3)
  (hz4:((p.hp && decide ((PW.size:Int)≤200)) || (!p.hp && PW.toList.isEmpty))=z4):
  Calls Tryz.prog 26 #[.agg X] w (TruePost w (!z1 && (!z2 && (!z3 && z4)))):=by
 have HX:=zh h;have HZ1:=zh hz1;have HZ2:=zh hz2;have HZ3:=zh hz3;have HZ4:=zh hz4;clear h hz1 hz2 hz3 hz4;obtain⟨W0,hW0⟩:∃W0,w.alloc (.cells X 29)=W0:=⟨_,rfl⟩;have HR:=zh (show Keeps w W0 []∧Row W0 w.heap.size 29 X from by
  rw[←hW0];exact⟨Keeps.alloc _ _,Row.new _ _ _⟩)
 go_enter Tryz.func26,Tryz.ntmps26
 go_upto_region 1 with fail
 try rw[hW0]
 clear hW0;have x7:=(HR.out.2.cell 7).trans HX.out.c7
 go_cut [26] (fun v wx=>v= .bool z1∧Keeps W0 wx [])
 case first=>
  have HK:=zh (Keeps.refl W0 [])
  go_wp2_with fail
  refine(HX.out.sc _).mono ?_;rintro e w' ⟨rfl,hk⟩;replace HK:=zh (HK.out.then_ hk);have x7:=((HR.out.2.keeps hk).cell 7).trans HX.out.c7;have x8:=((HR.out.2.keeps hk).cell 8).trans HX.out.c8;have x9:=((HR.out.2.keeps hk).cell 9).trans HX.out.c9;clear hk
  cases s1 with
  | false=>
   go_wp2_with fail
   go_meet
   exact⟨by rw[←HZ1.out];simp,HK.out⟩
  | true=>
   go_wp2_with fail
   all_goals go_meet
   all_goals
    refine⟨?_,HK.out⟩;rw[←HZ1.out]
    simp_all
 case rest=>
  obtain⟨rfl,hk1⟩:=hcut;replace HR:=zh (show Keeps w wc []∧Row wc w.heap.size 29 X from⟨HR.out.1.then_ hk1,HR.out.2.keeps hk1⟩);clear hk1 x7 HZ1
  cases z1 with
  | true=>
   go_wp2_with fail
   go_ret;exact⟨rfl,HR.out.1⟩
  | false=>
   go_upto_region 3 with fail
   have x10:=(HR.out.2.cell 10).trans HX.out.c10;have x11:=(HR.out.2.cell 11).trans HX.out.c11;have x12:=(HR.out.2.cell 12).trans HX.out.c12;have x13:=(HR.out.2.cell 13).trans HX.out.c13;have x14:=(HR.out.2.cell 14).trans HX.out.c14
   go_cut [65] (fun v wy=>v= .bool z2∧Keeps wc wy [])
   case first=>
    have HK:=zh (Keeps.refl wc [])
    cases hw:p.hw with
    | true=>
     rw[hw]at x10
     go_wp2_with fail
     refine(HX.out.nm _).mono ?_;rintro e w' ⟨rfl,hk⟩;replace HK:=zh (HK.out.then_ hk);have x10:=((HR.out.2.keeps hk).cell 10).trans HX.out.c10;rw[hw]at x10;have x12:=((HR.out.2.keeps hk).cell 12).trans HX.out.c12;have x13:=((HR.out.2.keeps hk).cell 13).trans HX.out.c13;clear hk
     cases nm with
     | false=>
      go_wp2_with fail
      all_goals go_meet
      all_goals
       refine⟨?_,HK.out⟩;rw[←HZ2.out,hw];simp
     | true=>
      go_wp2_with fail
      all_goals go_meet
      all_goals
       refine⟨?_,HK.out⟩;rw[←HZ2.out,hw]
       simp_all <;> exact Bool.or_assoc _ _ _
    | false=>
     rw[hw]at x10
     go_wp2_with fail
     all_goals go_meet
     all_goals
      refine⟨?_,HK.out⟩;rw[←HZ2.out,hw]
      simp_all
   case rest=>
    obtain⟨rfl,hk1⟩:=hcut;replace HR:=zh (show Keeps w wc []∧Row wc w.heap.size 29 X from⟨HR.out.1.then_ hk1,HR.out.2.keeps hk1⟩);clear hk1 x10 x11 x12 x13 x14 HZ2
    cases z2 with
    | true=>
     go_wp2_with fail
     go_ret;exact⟨rfl,HR.out.1⟩
    | false=>
     go_upto_region 5 with fail
     have x15:=(HR.out.2.cell 15).trans HX.out.c15;have x16:=(HR.out.2.cell 16).trans HX.out.c16;have x17:=(HR.out.2.cell 17).trans HX.out.c17
     go_cut [87] (fun v wy=>v= .bool z3∧Keeps wc wy [])
     case first=>
      have HK:=zh (Keeps.refl wc [])
      cases hu:p.hu with
      | true=>
       rw[hu]at x15
       go_wp2_with fail
       refine(HX.out.su _).mono ?_;rintro e w' ⟨rfl,hk⟩;replace HK:=zh (HK.out.then_ hk);have x15:=((HR.out.2.keeps hk).cell 15).trans HX.out.c15;rw[hu]at x15;have x17:=((HR.out.2.keeps hk).cell 17).trans HX.out.c17;have x16:=((HR.out.2.keeps hk).cell 16).trans HX.out.c16;clear hk
       cases s2 with
       | false=>
        go_wp2_with fail
        all_goals go_meet
        all_goals
         refine⟨?_,HK.out⟩;rw[←HZ3.out,hu];simp
       | true=>
        go_wp2_with fail
        all_goals go_meet
        all_goals
         refine⟨?_,HK.out⟩;rw[←HZ3.out,hu]
         simp_all
      | false=>
       rw[hu]at x15
       go_wp2_with fail
       all_goals go_meet
       all_goals
        refine⟨?_,HK.out⟩;rw[←HZ3.out,hu]
        simp_all
     case rest=>
      obtain⟨rfl,hk1⟩:=hcut;replace HR:=zh (show Keeps w wc []∧Row wc w.heap.size 29 X from⟨HR.out.1.then_ hk1,HR.out.2.keeps hk1⟩);clear hk1 x15 x16 x17 HZ3
      cases z3 with
      | true=>
       go_wp2_with fail
       go_ret;exact⟨rfl,HR.out.1⟩
      | false=>
       have x16:=(HR.out.2.cell 16).trans HX.out.c16;have x18:=(HR.out.2.cell 18).trans HX.out.c18
       cases hp:p.hp with
       | true=>
        rw[hp]at x16
        go_wp2_with fail
        all_goals go_ret
        all_goals
         refine⟨?_,HR.out.1⟩;rw[←HZ4.out,hp]
         simp_all
       | false=>
        rw[hp]at x16
        go_wp2_with fail
        all_goals go_ret
        all_goals
         refine⟨?_,HR.out.1⟩;rw[←HZ4.out,hp]
         simp_all
theorem lt_no (a b:Int):decide (a < b)= !decide (b≤a):=by
 rw[←decide_not];exact decide_eq_decide.2 (by omega)
theorem may1_eq (p:Pk)(h1:p.k=1):(!(!pkSaid p.c 23 || ((p.c.isEmpty && !p.cl) || (decide (p.keep < 0) || decide (65535 < p.keep)))) && (!((p.hw && (!tName p.wt || (decide (2000 < (p.wb.length:Int)) || (decide (p.wq < 0) || decide (2 < p.wq))))) || (!p.hw && !(p.wt.isEmpty && (p.wb.isEmpty && (decide (p.wq=0) && !p.wr))))) && (!((p.hu && !pkSaid p.u 200) || (!p.hu && (!p.u.isEmpty || p.hp))) && ((p.hp && decide ((p.pw.length:Int)≤200)) || (!p.hp && p.pw.isEmpty)))))=pkMay p:=by
 unfold pkMay;rw[if_pos h1];have e1:(!(!pkSaid p.c 23 || ((p.c.isEmpty && !p.cl) || (decide (p.keep < 0) || decide (65535 < p.keep)))))=(pkSaid p.c 23 && ((p.cl || !p.c.isEmpty) && pkIn p.keep 0 65535)):=by
  unfold pkIn;rw[lt_no,lt_no]
  generalize pkSaid p.c 23=a,p.c.isEmpty=b,p.cl=c,decide (0≤p.keep)=d,decide (p.keep≤65535)=e
  revert a b c d e
  decide
 have e2:(!((p.hw && (!tName p.wt || (decide (2000 < (p.wb.length:Int)) || (decide (p.wq < 0) || decide (2 < p.wq))))) || (!p.hw && !(p.wt.isEmpty && (p.wb.isEmpty && (decide (p.wq=0) && !p.wr))))))=pkWill p:=by
  unfold pkWill pkIn;rw[lt_no,lt_no,lt_no,show decide ((p.wb.length:Int)≤2000)=decide (p.wb.length≤2000)from decide_eq_decide.2 (by omega),show(p.wq==0)=decide (p.wq=0)from rfl]
  generalize p.hw=h,tName p.wt=a,p.wt.isEmpty=b,p.wb.isEmpty=c,decide (0≤p.wq)=d,decide (p.wq≤2)=e,decide (p.wb.length≤2000)=f,decide (p.wq=0)=g,p.wr=i
  revert h a b c d e f g i
  decide
 have e3:(!((p.hu && !pkSaid p.u 200) || (!p.hu && (!p.u.isEmpty || p.hp))))=pkUser p:=by
  unfold pkUser
  generalize pkSaid p.u 200=a,p.hu=b,p.u.isEmpty=c,p.hp=d
  revert a b c d
  decide
 have e4:((p.hp && decide ((p.pw.length:Int)≤200)) || (!p.hp && p.pw.isEmpty))=pkPass p:=by
  unfold pkPass;rw[show decide ((p.pw.length:Int)≤200)=decide (p.pw.length≤200)from decide_eq_decide.2 (by omega)]
  generalize p.hp=a,p.pw.isEmpty=b,decide (p.pw.length≤200)=c
  revert a b c
  decide
 rw[e1,e2,e3,e4,Bool.and_assoc,Bool.and_assoc]
theorem connect_any (p:Pk)(sw sc sf:Value)(w:World)(h1:p.k=1)(hc:p.c.length≤60000)(ht:p.wt.length≤60000)(hu:p.u.length≤60000):Calls Tryz.prog 26 #[pkV p sw sc sf] w (TruePost w (pkMay p)):=by
 obtain⟨X,eX,hX⟩:=PkAt.of p sw sc sf;rw[eX,←may1_eq p h1];refine connect_walk p X _ _ _ _ _ (pkSaid p.c 23) (pkSaid p.u 200) (tName p.wt) _ _ _ _ w ⟨hX.c7,hX.c8,hX.c9,hX.c10,hX.c11,hX.c12,hX.c13,hX.c14,hX.c15,hX.c16,hX.c17,hX.c18,Lib.toList_data _,Lib.toList_data _,⟨Lib.toList_data _,rfl⟩,Lib.toList_data _,⟨Lib.toList_data _,rfl⟩,fun W=>rfSaid_any W p.c 23 hc,fun W=>rfSaid_any W p.u 200 hu,fun W=>rName_any W p.wt ht⟩ ?_ ?_ ?_ ?_
 ·rw[Lib.toList_data]
 ·rw[Lib.toList_data,Lib.toList_data]
  rfl
 ·rw[Lib.toList_data]
 ·rw[Lib.toList_data]
  rfl

theorem may_no {p:Pk}(h:¬(1≤p.k∧p.k≤14)):pkOk p=false:=by
 unfold pkOk;rw[show pkIn p.k 1 14=false from Bool.eq_false_iff.2 (fun e=>h (pkIn_iff.1 e))];rfl
theorem may_is {p:Pk}(h:1≤p.k∧p.k≤14)(ha:pkAlone p=p):pkOk p=pkMay p:=by
 unfold pkOk;rw[pkIn_iff.2 h,decide_eq_true ha,Bool.and_true,Bool.true_and]
theorem may_not {p:Pk}(ha:¬pkAlone p=p):pkOk p=false:=by
 unfold pkOk;rw[decide_eq_false ha,Bool.and_false,Bool.and_false]
theorem alone_sm (p:Pk):(pkAlone p).wants.length≤p.wants.length∧(pkAlone p).codes.length≤p.codes.length∧(pkAlone p).fs.length≤p.fs.length:=by
 unfold pkAlone pkZ
 repeat' split
 all_goals simp
theorem may3_eq (p:Pk)(h:p.k=3):(!(!tName p.t || (decide (2000 < (p.b.length:Int)) || (decide (p.q < 0) || decide (2 < p.q)))) && ((decide (0 < p.q) && pkId p) || ((decide (p.q=0) && decide (p.id=0)) && !p.dup)))=pkMay p:=by
 unfold pkMay;rw[if_neg (by omega),if_neg (by omega),if_pos h,show(p.id==0)=decide (p.id=0)from rfl,lt_no 2000,lt_no 2,show decide ((p.b.length:Int)≤2000)=decide (p.b.length≤2000)from decide_eq_decide.2 (by omega)];unfold pkIn
 by_cases hq:p.q=0
 ·rw[if_pos hq,hq]
  generalize pkId p=i,tName p.t=a,p.dup=d,decide (p.id=0)=e,decide (p.b.length≤2000)=f
  revert i a d e f
  decide
 ·rw[if_neg hq,decide_eq_false hq,lt_no p.q,show decide (0 < p.q)=decide (0≤p.q)from decide_eq_decide.2 (by omega)]
  generalize pkId p=i,tName p.t=a,p.dup=d,decide (p.id=0)=e,decide (p.b.length≤2000)=f,decide (0≤p.q)=g,decide (p.q≤2)=m
  revert i a d e f g m
  decide
/-- A packet's texts are of a machine's length. -/
structure PkTs (p:Pk):Prop where
 t:p.t.length≤60000
 c:p.c.length≤60000
 wt:p.wt.length≤60000
 u:p.u.length≤60000
 w:∀x∈p.wants,x.1.length≤60000
 f:∀x∈p.fs,x.length≤60000
theorem many_no {α:Type}{z:Bool}{l:List α}{f:α→Bool}(h:l.all f=false):(z && pkMany l f)=false:=by
 unfold pkMany;rw[h,Bool.and_false,Bool.and_false,Bool.and_false]
theorem many_yes {α:Type}{z:Bool}{l:List α}{f:α→Bool}(h:l.all f=true):(z && pkMany l f)=(z && (decide ((1:Int)≤l.length) && decide ((l.length:Int)≤8))):=by
 unfold pkMany;rw[h,Bool.and_true,show decide ((1:Int)≤l.length)=decide (1≤l.length)from decide_eq_decide.2 (by omega),show decide ((l.length:Int)≤8)=decide (l.length≤8)from decide_eq_decide.2 (by omega)]
theorem PkL.wants {w:World}{p:Pk}{A:Option Addr}{n c:Nat}{sc sf:Value}(h:PkL w p (.slice A n c) sc sf):ListG w 2 wantC A p.wants:=by
 obtain⟨_,_,e,g⟩:=h.lw;injection e with e
 exact e▸g
theorem PkL.codes {w:World}{p:Pk}{A:Option Addr}{n c:Nat}{sw sf:Value}(h:PkL w p sw (.slice A n c) sf):ListG w 1 intC A p.codes:=by
 obtain⟨_,_,e,g⟩:=h.lc;injection e with e
 exact e▸g
theorem PkL.fs {w:World}{p:Pk}{A:Option Addr}{n c:Nat}{sw sc:Value}(h:PkL w p sw sc (.slice A n c)):ListG w 1 txtV A p.fs:=by
 obtain⟨_,_,e,g⟩:=h.lf;injection e with e
 exact e▸g
set_option maxRecDepth 100000 in
set_option maxHeartbeats 4000000 in
theorem right_walkA (p:Pk)(X:Array Value)(sw sc sf:Value)(w:World)(eX:pkV p sw sc sf= .agg X)(hX:PkAt p X sw sc sf)(hl:PkL w p sw sc sf)(ht:PkTs p)(hs:p.wants.length≤1000000∧p.codes.length≤1000000∧p.fs.length≤1000000)(hx:(Tryz.prog.info? 29).map (·.size)=some X.size)(hkk:¬(p.k=8∨p.k=9∨p.k=10)):
  Calls Tryz.prog 12 #[.agg X] w (TruePost w (pkOk p)):=by
 have HKK:=zh hkk;clear hkk;obtain⟨A1,c1,A2,c2,A3,c3,rfl,rfl,rfl⟩:=hl.slices;have HX:=zh hX;have HS:=zh hs;have HT:=zh ht;have HZ:=zh (And.intro eX hx);obtain⟨W0,hW0⟩:∃W0,w.alloc (.cells X 29)=W0:=⟨_,rfl⟩;have HR:=zh (show Keeps w W0 []∧Row W0 w.heap.size 29 X from by
  rw[←hW0];exact⟨Keeps.alloc _ _,Row.new _ _ _⟩)
 have HL:=zh (hl.keeps HR.out.1);clear hX hs hl eX hx ht
 go_enter Tryz.func12,Tryz.ntmps12
 go_upto_region 1 with fail
 try rw[hW0]
 clear hW0;have x0:=(HR.out.2.cell 0).trans HX.out.c0
 go_upto_region 2 with fail
 by_cases h1:p.k < 1
 ·have hb:decide (p.k < 1)=true:=decide_eq_true h1
  have HF:=zh (may_no (p:=p) (by omega));clear h1 x0;refine wp_region_keeps _ (by kernel_rfl) rfl (by kernel_rfl) ?_;refine ls ?_;simp only[addEnt];refine loose_q (.bool true) (fun _=>by kernel_rfl) (fun W _=>(show _=Result.ok (Next.value (.bool (decide (p.k < 1)))) W by kernel_rfl).trans (by rw[hb])) ?_;refine ls ?_
  iterate 2
   simp only[addEnt];refine lo ?_
  iterate 2
   simp only[addEnt];refine ls ?_
  iterate 5
   simp only[addEnt];refine lo ?_
  simp only[addEnt];refine ls ?_;simp only[addEnt];refine loose_nil (fun W vals hW hkn=> ?_);simp only[knowsAll]at hkn
  try simp only[and_true]at hkn
  simp only[fill,Act.put,zsa,zsc,zsz];have HK:=zh hW;clear hW
  go_wp2_with fail
  go_ret;exact⟨by rw[HF.out];rfl,HR.out.1.then_ HK.out⟩
 have hb:decide (p.k < 1)=false:=decide_eq_false h1
 by_cases h2:14 < p.k
 ·have hb2:decide (14 < p.k)=true:=decide_eq_true h2
  have HF:=zh (may_no (p:=p) (by omega));clear h1 h2 x0;refine wp_region_keeps _ (by kernel_rfl) rfl (by kernel_rfl) ?_;refine ls ?_;simp only[addEnt];refine loose_q (.bool false) (fun _=>by kernel_rfl) (fun W _=>(show _=Result.ok (Next.value (.bool (decide (p.k < 1)))) W by kernel_rfl).trans (by rw[hb])) ?_
  iterate 2
   refine ls ?_;simp only[addEnt]
  refine loose_q (.bool true) (fun _=>by kernel_rfl) (fun W _=>(show _=Result.ok (Next.value (.bool (decide (14 < p.k)))) W by kernel_rfl).trans (by rw[hb2])) ?_
  iterate 2
   refine ls ?_;simp only[addEnt]
  iterate 5
   refine lo ?_;simp only[addEnt]
  refine ls ?_;simp only[addEnt];refine loose_nil (fun W vals hW hkn=> ?_);simp only[knowsAll]at hkn
  try simp only[and_true]at hkn
  simp only[fill,Act.put,zsa,zsc,zsz];have HK:=zh hW;clear hW
  go_wp2_with fail
  go_ret;exact⟨by rw[HF.out];rfl,HR.out.1.then_ HK.out⟩
 have hb2:decide (14 < p.k)=false:=decide_eq_false h2;have HKR:=zh (show 1≤p.k∧p.k≤14 by omega);clear h1 h2 x0;have HAL:=zh (fun W (hW:Keeps W0 W [])=>alone_any p X _ _ _ W HX.out (HL.out.keeps hW) HKR.out);have HSM:=zh (fun sw' sc' sf' W (hW:Keeps W0 W []) (h:PkL W (pkAlone p) sw' sc' sf')=>HZ.out.1▸refSame_any (pkAlone p) p sw' sc' sf' _ _ _ W h (HL.out.keeps hW) ⟨Nat.le_trans (alone_sm p).1 HS.out.1,Nat.le_trans (alone_sm p).2.1 HS.out.2.1,Nat.le_trans (alone_sm p).2.2 HS.out.2.2⟩);refine wp_region_keeps _ (by kernel_rfl) rfl (by kernel_rfl) ?_;refine ls ?_;simp only[addEnt];refine loose_q (.bool false) (fun _=>by kernel_rfl) (fun W _=>(show _=Result.ok (Next.value (.bool (decide (p.k < 1)))) W by kernel_rfl).trans (by rw[hb])) ?_
 iterate 2
  refine ls ?_;simp only[addEnt]
 refine loose_q (.bool false) (fun _=>by kernel_rfl) (fun W _=>(show _=Result.ok (Next.value (.bool (decide (14 < p.k)))) W by kernel_rfl).trans (by rw[hb2])) ?_
 iterate 2
  refine ls ?_;simp only[addEnt]
 refine lx (fun W hW=>HR.out.2.keeps hW) Tryz.underlying29 HZ.out.2 ?_;simp only[addEnt];refine loose_has (fun v W' =>∃sw' sc' sf',v=pkV (pkAlone p) sw' sc' sf' ∧PkL W' (pkAlone p) sw' sc' sf') (fun W vals hW hkn φ' hφ=> ?_) ?_
 ·simp only[knows]at hkn
  try simp only[and_true]at hkn
  clear hkn;refine⟨?_⟩;simp only[fill];go_simp;refine looseUpon_calls ((HAL.out W hW).mono ?_);rintro e w' ⟨sw',sc',sf',rfl,hl',hk⟩;exact⟨_,rfl,hk,hφ.out _ _ ⟨_,_,_,rfl,hl' _ (HL.out.keeps (hW.then_ hk))⟩⟩
 simp only[addEnt];refine lx (fun W hW=>HR.out.2.keeps hW) Tryz.underlying29 HZ.out.2 ?_;simp only[addEnt];apply loose_is
 ·intro W vals hW hkn
  simp only[knows]at hkn
  try simp only[and_true]at hkn
  obtain⟨W1,q0,q1,sw',sc',sf',hv,hpl⟩:=hkn (by decide);clear hkn;refine⟨?_⟩;simp only[fill];go_simp;refine looseUpon_calls ?_;exact(HSM.out sw' sc' sf' W hW (hpl.keeps q1)).mono (by rintro e w3 ⟨rfl,hk⟩;exact⟨_,rfl,hk,rfl⟩)
 iterate 2
  simp only[addEnt];refine ls ?_
 simp only[addEnt];refine loose_nil (fun W vals hW hkn=> ?_);simp only[knowsAll]at hkn
 try simp only[and_true]at hkn
 simp only[fill,Act.put,zsa,zsc,zsz];clear hkn hb hb2 HAL HSM;replace HR:=zh (show Keeps w W []∧Row W w.heap.size 29 X from⟨HR.out.1.then_ hW,HR.out.2.keeps hW⟩);replace HL:=zh (HL.out.keeps hW);clear hW;obtain⟨za,hza⟩:∃z,decide (pkAlone p=p)=z:=⟨_,rfl⟩;rw[hza]
 cases za with
 | false=>
  have HF:=zh (may_not (of_decide_eq_false hza));clear hza
  go_wp2_with fail
  go_ret;exact⟨by rw[HF.out];rfl,HR.out.1⟩
 | true=>
 have HF:=zh (may_is HKR.out (of_decide_eq_true hza));clear hza
 go_upto_region 4 with fail
 have x6:=(HR.out.2.cell 6).trans HX.out.c6;obtain⟨zi,hzi⟩:∃z,pkId p=z:=⟨_,rfl⟩;have HI:=zh hzi;clear hzi
 go_cut [4] (fun v wx=>v= .bool zi∧Keeps W wx [])
 case first=>
  have HK:=zh (Keeps.refl W [])
  go_wp2_with fail
  all_goals go_meet
  all_goals
   refine⟨?_,HK.out⟩;rw[←HI.out];unfold pkId pkIn
   simp_all <;> omega
 case rest=>
  obtain⟨rfl,hk1⟩:=hcut;replace HR:=zh (show Keeps w wc []∧Row wc w.heap.size 29 X from⟨HR.out.1.then_ hk1,HR.out.2.keeps hk1⟩);replace HL:=zh (HL.out.keeps hk1);clear hk1 x6;obtain⟨k,hk⟩:∃k,p.k=k:=⟨_,rfl⟩
  try rw[hk]
  have HKD:=zh hk;clear hk;have hcs:k=1∨k=2∨k=3∨(k=12∨k=13∨k=14)∨(k=4∨k=5∨k=6∨k=7∨k=11):=by
   have h1:=HKR.out;have h2:=HKK.out;rw[HKD.out]at h1 h2;omega
  rcases hcs with rfl | rfl | rfl | h | h
  ·have HC:=zh (fun W=>HZ.out.1▸connect_any p _ _ _ W HKD.out HT.out.c HT.out.wt HT.out.u)
   go_wp2_with (refine wpList_loadX (by kernel_rfl) rfl rfl HR.out.2 Tryz.underlying29 rfl HZ.out.2 ?_)
   refine(HC.out _).mono ?_;rintro e w' ⟨rfl,hk⟩;replace HR:=zh (HR.out.1.then_ hk);clear hk
   go_wp2_with fail
   go_ret;exact⟨by rw[HF.out];rfl,HR.out⟩
  ·have HM:Hid (pkMay p=(pkIn p.code 0 5 && (p.code==0 || !p.pr))):=zh (by unfold pkMay;rw[if_neg (by rw[HKD.out];decide),if_pos HKD.out])
   have x19:=(HR.out.2.cell 19).trans HX.out.c19;have x20:=(HR.out.2.cell 20).trans HX.out.c20
   go_wp2_with fail
   all_goals go_ret
   all_goals
    refine⟨?_,HR.out.1⟩;rw[HF.out,HM.out];clear HF HM HI HT HX HZ HS HKR HL HKD;unfold pkIn
    simp_all <;> omega
  ·have HN:=zh (fun W=>rName_any W p.t HT.out.t)
   have HM:=zh (may3_eq p HKD.out);obtain⟨z1,hz1⟩:∃z,(!tName p.t || (decide (2000 < (p.b.length:Int)) || (decide (p.q < 0) || decide (2 < p.q))))=z:=⟨_,rfl⟩;have HZ1:=zh hz1;have x4:=(HR.out.2.cell 4).trans HX.out.c4;clear hz1
   go_upto_region 11 with fail
   go_cut [78] (fun v wy=>v= .bool z1∧Keeps wc wy [])
   case first=>
    have HK:=zh (Keeps.refl wc [])
    go_wp2_with fail
    refine(HN.out _).mono ?_;rintro e w' ⟨rfl,hk⟩;replace HK:=zh (HK.out.then_ hk);have x5:=((HR.out.2.keeps hk).cell 5).trans HX.out.c5;have x3:=((HR.out.2.keeps hk).cell 3).trans HX.out.c3;clear hk;obtain⟨zn,hzn⟩:∃z,tName p.t=z:=⟨_,rfl⟩;rw[hzn]at HZ1 ⊢
    clear hzn;have hbs:((⟨p.b.toArray⟩:ByteArray).size:Int)=(p.b.length:Int):=rfl
    cases zn with
    | false=>
     go_wp2_with fail
     all_goals go_meet
     all_goals
      refine⟨?_,HK.out⟩;rw[←HZ1.out];simp
    | true=>
     go_wp2_with fail
     all_goals go_meet
     all_goals
      refine⟨?_,HK.out⟩;rw[←HZ1.out];clear HM HF HI HT HX HZ HS HKR HL HKD HZ1 HN
      simp_all <;> first | omega | exact Bool.or_assoc _ _ _
   case rest=>
    obtain⟨rfl,hk1⟩:=hcut;replace HR:=zh (show Keeps w wc []∧Row wc w.heap.size 29 X from⟨HR.out.1.then_ hk1,HR.out.2.keeps hk1⟩);clear hk1 x4;rw[HZ1.out]at HM;clear HZ1
    cases z1 with
    | true=>
     go_wp2_with fail
     go_ret;exact⟨by rw[HF.out,←HM.out];rfl,HR.out.1⟩
    | false=>
     have x1:=(HR.out.2.cell 1).trans HX.out.c1;have x3:=(HR.out.2.cell 3).trans HX.out.c3;have x6:=(HR.out.2.cell 6).trans HX.out.c6;rw[HI.out]at HM
     go_wp2_with fail
     all_goals go_ret
     all_goals
      refine⟨?_,HR.out.1⟩;rw[HF.out,←HM.out];clear HM HF HI HT HX HZ HS HKR HL HKD HN
      simp_all <;> omega
  ·have HM:Hid (pkMay p=true):=zh (by unfold pkMay;rw[HKD.out];rcases h with rfl | rfl | rfl <;> rfl)
   rcases h with rfl | rfl | rfl
   all_goals
    go_wp2_with fail
    go_ret;exact⟨by rw[HF.out,HM.out];rfl,HR.out.1⟩
  ·have HM:Hid (pkMay p=zi):=zh (by rw[←HI.out];unfold pkMay;rw[HKD.out];rcases h with rfl | rfl | rfl | rfl | rfl <;> rfl)
   rcases h with rfl | rfl | rfl | rfl | rfl
   all_goals
    go_wp2_with fail
    go_ret;exact⟨by rw[HF.out,HM.out];rfl,HR.out.1⟩
set_option maxRecDepth 100000 in
set_option maxHeartbeats 4000000 in
theorem right_walkB (p:Pk)(X:Array Value)(sw sc sf:Value)(w:World)(eX:pkV p sw sc sf= .agg X)(hX:PkAt p X sw sc sf)(hl:PkL w p sw sc sf)(ht:PkTs p)(hs:p.wants.length≤1000000∧p.codes.length≤1000000∧p.fs.length≤1000000)(hx:(Tryz.prog.info? 29).map (·.size)=some X.size)(hkk:p.k=8∨p.k=9∨p.k=10):
  Calls Tryz.prog 12 #[.agg X] w (TruePost w (pkOk p)):=by
 have HKK:=zh hkk;clear hkk;obtain⟨A1,c1,A2,c2,A3,c3,rfl,rfl,rfl⟩:=hl.slices;have HX:=zh hX;have HS:=zh hs;have HT:=zh ht;have HZ:=zh (And.intro eX hx);obtain⟨W0,hW0⟩:∃W0,w.alloc (.cells X 29)=W0:=⟨_,rfl⟩;have HR:=zh (show Keeps w W0 []∧Row W0 w.heap.size 29 X from by
  rw[←hW0];exact⟨Keeps.alloc _ _,Row.new _ _ _⟩)
 have HL:=zh (hl.keeps HR.out.1);clear hX hs hl eX hx ht
 go_enter Tryz.func12,Tryz.ntmps12
 go_upto_region 1 with fail
 try rw[hW0]
 clear hW0;have x0:=(HR.out.2.cell 0).trans HX.out.c0
 go_upto_region 2 with fail
 have hb:decide (p.k < 1)=false:=decide_eq_false (by have:=HKK.out;omega);have hb2:decide (14 < p.k)=false:=decide_eq_false (by have:=HKK.out;omega);have HKR:=zh (show 1≤p.k∧p.k≤14 by have:=HKK.out;omega);clear x0;have HAL:=zh (fun W (hW:Keeps W0 W [])=>alone_any p X _ _ _ W HX.out (HL.out.keeps hW) HKR.out);have HSM:=zh (fun sw' sc' sf' W (hW:Keeps W0 W []) (h:PkL W (pkAlone p) sw' sc' sf')=>HZ.out.1▸refSame_any (pkAlone p) p sw' sc' sf' _ _ _ W h (HL.out.keeps hW) ⟨Nat.le_trans (alone_sm p).1 HS.out.1,Nat.le_trans (alone_sm p).2.1 HS.out.2.1,Nat.le_trans (alone_sm p).2.2 HS.out.2.2⟩);refine wp_region_keeps _ (by kernel_rfl) rfl (by kernel_rfl) ?_;refine ls ?_;simp only[addEnt];refine loose_q (.bool false) (fun _=>by kernel_rfl) (fun W _=>(show _=Result.ok (Next.value (.bool (decide (p.k < 1)))) W by kernel_rfl).trans (by rw[hb])) ?_
 iterate 2
  refine ls ?_;simp only[addEnt]
 refine loose_q (.bool false) (fun _=>by kernel_rfl) (fun W _=>(show _=Result.ok (Next.value (.bool (decide (14 < p.k)))) W by kernel_rfl).trans (by rw[hb2])) ?_
 iterate 2
  refine ls ?_;simp only[addEnt]
 refine lx (fun W hW=>HR.out.2.keeps hW) Tryz.underlying29 HZ.out.2 ?_;simp only[addEnt];refine loose_has (fun v W' =>∃sw' sc' sf',v=pkV (pkAlone p) sw' sc' sf' ∧PkL W' (pkAlone p) sw' sc' sf') (fun W vals hW hkn φ' hφ=> ?_) ?_
 ·simp only[knows]at hkn
  try simp only[and_true]at hkn
  clear hkn;refine⟨?_⟩;simp only[fill];go_simp;refine looseUpon_calls ((HAL.out W hW).mono ?_);rintro e w' ⟨sw',sc',sf',rfl,hl',hk⟩;exact⟨_,rfl,hk,hφ.out _ _ ⟨_,_,_,rfl,hl' _ (HL.out.keeps (hW.then_ hk))⟩⟩
 simp only[addEnt];refine lx (fun W hW=>HR.out.2.keeps hW) Tryz.underlying29 HZ.out.2 ?_;simp only[addEnt];apply loose_is
 ·intro W vals hW hkn
  simp only[knows]at hkn
  try simp only[and_true]at hkn
  obtain⟨W1,q0,q1,sw',sc',sf',hv,hpl⟩:=hkn (by decide);clear hkn;refine⟨?_⟩;simp only[fill];go_simp;refine looseUpon_calls ?_;exact(HSM.out sw' sc' sf' W hW (hpl.keeps q1)).mono (by rintro e w3 ⟨rfl,hk⟩;exact⟨_,rfl,hk,rfl⟩)
 iterate 2
  simp only[addEnt];refine ls ?_
 simp only[addEnt];refine loose_nil (fun W vals hW hkn=> ?_);simp only[knowsAll]at hkn
 try simp only[and_true]at hkn
 simp only[fill,Act.put,zsa,zsc,zsz];clear hkn hb hb2 HAL HSM;replace HR:=zh (show Keeps w W []∧Row W w.heap.size 29 X from⟨HR.out.1.then_ hW,HR.out.2.keeps hW⟩);replace HL:=zh (HL.out.keeps hW);clear hW;obtain⟨za,hza⟩:∃z,decide (pkAlone p=p)=z:=⟨_,rfl⟩;rw[hza]
 cases za with
 | false=>
  have HF:=zh (may_not (of_decide_eq_false hza));clear hza
  go_wp2_with fail
  go_ret;exact⟨by rw[HF.out];rfl,HR.out.1⟩
 | true=>
 have HF:=zh (may_is HKR.out (of_decide_eq_true hza));clear hza
 go_upto_region 4 with fail
 have x6:=(HR.out.2.cell 6).trans HX.out.c6;obtain⟨zi,hzi⟩:∃z,pkId p=z:=⟨_,rfl⟩;have HI:=zh hzi;clear hzi
 go_cut [4] (fun v wx=>v= .bool zi∧Keeps W wx [])
 case first=>
  have HK:=zh (Keeps.refl W [])
  go_wp2_with fail
  all_goals go_meet
  all_goals
   refine⟨?_,HK.out⟩;rw[←HI.out];unfold pkId pkIn
   simp_all <;> omega
 case rest=>
  obtain⟨rfl,hk1⟩:=hcut;replace HR:=zh (show Keeps w wc []∧Row wc w.heap.size 29 X from⟨HR.out.1.then_ hk1,HR.out.2.keeps hk1⟩);replace HL:=zh (HL.out.keeps hk1);clear hk1 x6;obtain⟨k,hk⟩:∃k,p.k=k:=⟨_,rfl⟩
  try rw[hk]
  have HKD:=zh hk;clear hk;have hcs:k=8∨k=9∨k=10:=by
   have h2:=HKK.out
   rwa [HKD.out]at h2
  rcases hcs with rfl | rfl | rfl
  ·have HM:Hid (pkMay p=(zi && pkMany p.wants fun w=>tFilter w.1 && pkIn w.2 0 2)):=zh (by rw[←HI.out];unfold pkMay;rw[HKD.out];rfl)
   have HLW:=zh HL.out.wants;have hlen:=HS.out.1;obtain⟨okW,hokW⟩:∃f:List UInt8×Int→Bool,(fun w=>tFilter w.1 && pkIn w.2 0 2)=f:=⟨_,rfl⟩;rw[hokW]at HM;have HOW:=zh (fun w=>(congrFun hokW w).symm);clear hokW
   go_wp2_with fail
   go_loopw [5] (fun i wr=>∃j:Nat,j≤p.wants.length∧i= .int .i64 j∧Hid ((p.wants.take j).all okW=true∧Keeps wc wr [])) (fun i _=>p.wants.length - (intOf i).toNat)
   case atStart=>exact⟨0,by omega,rfl,zh ⟨rfl,Keeps.refl _ _⟩⟩
   case round=>
    obtain⟨j,hj,rfl,HRR⟩:=hrel;have x21:=((HR.out.2.keeps HRR.out.2).cell 21).trans HX.out.c21
    by_cases hjl:j < p.wants.length
    ·have hjq:(j:Int) < (p.wants.length:Int):=by omega
     obtain⟨b1,o1,cs1,rfl,hr1,hc1⟩:=HLW.out (by omega);have HST:=zh (fun h:okW p.wants[j]=true=>show(p.wants.take (j+1)).all okW=true by rw[List.take_succ_eq_append_getElem hjl,List.all_append,HRR.out.1];simp[h]);have HNO:=zh (fun h:okW p.wants[j]=false=>show p.wants.all okW=false from List.all_eq_false.2 ⟨p.wants[j],List.getElem_mem _,by simp[h]⟩);have HTX:=HT.out.w _ (List.getElem_mem hjl);have hc1:=hc1 j hjl
     generalize p.wants[j]=x at*
     obtain⟨x1,x2⟩:=x;have HFI:=zh (fun W=>rFilter_any W x1 HTX);have M2:=fun(W' :World) (hW:Keeps wr W' [])=>((hr1.keeps (HRR.out.2.then_ hW)).cell (o1+j*2+1)).trans (hc1 1 (by omega))
     simp only[wantC,zgs,zgz]at M2;have HM2:=zh M2;clear M2;have M1:=((hr1.keeps HRR.out.2).cell (o1+j*2+0)).trans (hc1 0 (by omega));simp only[wantC,zgz,Nat.add_zero]at M1;clear hc1 hr1 HTX
     go_wp2_with fail
     refine(HFI.out _).mono ?_;rintro e w' ⟨rfl,hk⟩;have HK:=zh (HRR.out.2.then_ hk);have x21:=((HR.out.2.keeps HK.out).cell 21).trans HX.out.c21;have M2:=HM2.out w' hk;clear hk
     cases hf:tFilter x1 with
     | false=>
      have HD:=zh (HNO.out (by rw[HOW.out];show(tFilter x1 && _)=false;rw[hf];rfl));clear hf
      go_wp2_with fail
      go_ret;exact⟨by rw[HF.out,HM.out,many_no HD.out];rfl,HR.out.1.then_ HK.out⟩
     | true=>
      by_cases hq1:x2 < 0
      ·have HD:=zh (HNO.out (by rw[HOW.out];show(tFilter x1 && pkIn x2 0 2)=false;unfold pkIn;simp;omega))
       go_wp2_with fail
       go_ret;exact⟨by rw[HF.out,HM.out,many_no HD.out];rfl,HR.out.1.then_ HK.out⟩
      ·by_cases hq2:2 < x2
       ·have HD:=zh (HNO.out (by rw[HOW.out];show(tFilter x1 && pkIn x2 0 2)=false;unfold pkIn;simp;omega))
        go_wp2_with fail
        go_ret;exact⟨by rw[HF.out,HM.out,many_no HD.out];rfl,HR.out.1.then_ HK.out⟩
       ·have HD:=zh (HST.out (by rw[HOW.out];show(tFilter x1 && pkIn x2 0 2)=true;rw[hf,pkIn_iff.2 ⟨by omega,by omega⟩];rfl))
        clear hf
        go_wp2_with fail
        exact⟨⟨j+1,by omega,by go_num,zh ⟨HD.out,HK.out⟩⟩,by simp[intOf];omega⟩
    ·obtain rfl:j=p.wants.length:=by omega
     have HA:=zh (many_yes (z:=zi) (by have:=HRR.out.1;rwa [List.take_length]at this));have HK:=zh HRR.out.2
     go_wp2_with fail
     all_goals go_ret
     all_goals
      refine⟨?_,HR.out.1.then_ HK.out⟩;rw[HF.out,HM.out,HA.out];clear HM HF HI HT HX HZ HS HKR HL HKD HA HLW HOW HRR
      generalize p.wants.length=n at*
      simp_all <;> omega
  ·have HM:Hid (pkMay p=(zi && pkMany p.codes fun c=>pkIn c 0 2 || c==128)):=zh (by rw[←HI.out];unfold pkMay;rw[HKD.out];rfl)
   have HLW:=zh HL.out.codes;have hlen:=HS.out.2.1;obtain⟨okW,hokW⟩:∃f:Int→Bool,(fun c=>pkIn c 0 2 || c==128)=f:=⟨_,rfl⟩;rw[hokW]at HM;have HOW:=zh (fun w=>(congrFun hokW w).symm);clear hokW
   go_wp2_with fail
   go_loopw [6] (fun i wr=>∃j:Nat,j≤p.codes.length∧i= .int .i64 j∧Hid ((p.codes.take j).all okW=true∧Keeps wc wr [])) (fun i _=>p.codes.length - (intOf i).toNat)
   case atStart=>exact⟨0,by omega,rfl,zh ⟨rfl,Keeps.refl _ _⟩⟩
   case round=>
    obtain⟨j,hj,rfl,HRR⟩:=hrel;have x21:=((HR.out.2.keeps HRR.out.2).cell 22).trans HX.out.c22
    by_cases hjl:j < p.codes.length
    ·have hjq:(j:Int) < (p.codes.length:Int):=by omega
     obtain⟨b1,o1,cs1,rfl,hr1,hc1⟩:=HLW.out (by omega);have HST:=zh (fun h:okW p.codes[j]=true=>show(p.codes.take (j+1)).all okW=true by rw[List.take_succ_eq_append_getElem hjl,List.all_append,HRR.out.1];simp[h]);have HNO:=zh (fun h:okW p.codes[j]=false=>show p.codes.all okW=false from List.all_eq_false.2 ⟨p.codes[j],List.getElem_mem _,by simp[h]⟩);have hc1:=hc1 j hjl
     generalize p.codes[j]=x at*
     have M1:=((hr1.keeps HRR.out.2).cell (o1+j*1+0)).trans (hc1 0 (by omega));simp only[intC,zgz,Nat.mul_one,Nat.add_zero]at M1;have HK:=zh HRR.out.2;clear hc1 hr1
     by_cases hx:x=0∨x=1∨x=2∨x=128
     ·have HD:=zh (HST.out (by rw[HOW.out];rcases hx with rfl | rfl | rfl | rfl <;> decide))
      rcases hx with rfl | rfl | rfl | rfl
      all_goals
       go_wp2_with fail
       exact⟨⟨j+1,by omega,by go_num,zh ⟨HD.out,HK.out⟩⟩,by simp[intOf];omega⟩
     ·have HD:=zh (HNO.out (by rw[HOW.out];show(pkIn x 0 2 || x==128)=false;unfold pkIn;simp;omega))
      have h0:(x !=0)=true:=by simp;omega
      have h1:(x !=1)=true:=by simp;omega
      have h2:(x !=2)=true:=by simp;omega
      have h3:(x !=128)=true:=by simp;omega
      clear hx
      go_wp2_with fail
      go_ret;exact⟨by rw[HF.out,HM.out,many_no HD.out];rfl,HR.out.1.then_ HK.out⟩
    ·obtain rfl:j=p.codes.length:=by omega
     have HA:=zh (many_yes (z:=zi) (by have:=HRR.out.1;rwa [List.take_length]at this));have HK:=zh HRR.out.2
     go_wp2_with fail
     all_goals go_ret
     all_goals
      refine⟨?_,HR.out.1.then_ HK.out⟩;rw[HF.out,HM.out,HA.out];clear HM HF HI HT HX HZ HS HKR HL HKD HA HLW HOW HRR
      generalize p.codes.length=n at*
      simp_all <;> omega
  ·have HM:Hid (pkMay p=(zi && pkMany p.fs tFilter)):=zh (by rw[←HI.out];unfold pkMay;rw[HKD.out];rfl)
   have HLW:=zh HL.out.fs;have hlen:=HS.out.2.2;obtain⟨okW,hokW⟩:∃f:List UInt8→Bool,(tFilter)=f:=⟨_,rfl⟩;rw[hokW]at HM;have HOW:=zh (fun w=>(congrFun hokW w).symm);clear hokW
   go_wp2_with fail
   go_loopw [8] (fun i wr=>∃j:Nat,j≤p.fs.length∧i= .int .i64 j∧Hid ((p.fs.take j).all okW=true∧Keeps wc wr [])) (fun i _=>p.fs.length - (intOf i).toNat)
   case atStart=>exact⟨0,by omega,rfl,zh ⟨rfl,Keeps.refl _ _⟩⟩
   case round=>
    obtain⟨j,hj,rfl,HRR⟩:=hrel;have x21:=((HR.out.2.keeps HRR.out.2).cell 23).trans HX.out.c23
    by_cases hjl:j < p.fs.length
    ·have hjq:(j:Int) < (p.fs.length:Int):=by omega
     obtain⟨b1,o1,cs1,rfl,hr1,hc1⟩:=HLW.out (by omega);have HST:=zh (fun h:okW p.fs[j]=true=>show(p.fs.take (j+1)).all okW=true by rw[List.take_succ_eq_append_getElem hjl,List.all_append,HRR.out.1];simp[h]);have HNO:=zh (fun h:okW p.fs[j]=false=>show p.fs.all okW=false from List.all_eq_false.2 ⟨p.fs[j],List.getElem_mem _,by simp[h]⟩);have HTX:=HT.out.f _ (List.getElem_mem hjl);have hc1:=hc1 j hjl
     generalize p.fs[j]=x at*
     have HFI:=zh (fun W=>rFilter_any W x HTX);have M1:=((hr1.keeps HRR.out.2).cell (o1+j*1+0)).trans (hc1 0 (by omega));simp only[txtV,zgz,Nat.mul_one,Nat.add_zero]at M1;clear hc1 hr1 HTX
     go_wp2_with fail
     refine(HFI.out _).mono ?_;rintro e w' ⟨rfl,hk⟩;have HK:=zh (HRR.out.2.then_ hk);clear hk
     cases hf:tFilter x with
     | false=>
      have HD:=zh (HNO.out (by rw[HOW.out];exact hf));clear hf
      go_wp2_with fail
      go_ret;exact⟨by rw[HF.out,HM.out,many_no HD.out];rfl,HR.out.1.then_ HK.out⟩
     | true=>
      have HD:=zh (HST.out (by rw[HOW.out];exact hf));clear hf
      go_wp2_with fail
      exact⟨⟨j+1,by omega,by go_num,zh ⟨HD.out,HK.out⟩⟩,by simp[intOf];omega⟩
    ·obtain rfl:j=p.fs.length:=by omega
     have HA:=zh (many_yes (z:=zi) (by have:=HRR.out.1;rwa [List.take_length]at this));have HK:=zh HRR.out.2
     go_wp2_with fail
     all_goals go_ret
     all_goals
      refine⟨?_,HR.out.1.then_ HK.out⟩;rw[HF.out,HM.out,HA.out];clear HM HF HI HT HX HZ HS HKR HL HKD HA HLW HOW HRR
      generalize p.fs.length=n at*
      simp_all <;> omega
theorem refRight_any (p:Pk)(sw sc sf:Value)(w:World)(hl:PkL w p sw sc sf)(ht:PkTs p)(hs:p.wants.length≤1000000∧p.codes.length≤1000000∧p.fs.length≤1000000):Calls Tryz.prog 12 #[pkV p sw sc sf] w (TruePost w (pkOk p)):=by
 by_cases h:p.k=8∨p.k=9∨p.k=10
 ·exact right_walkB p _ sw sc sf w rfl (by constructor <;> rfl) hl ht hs (by kernel_rfl) h
 ·exact right_walkA p _ sw sc sf w rfl (by constructor <;> rfl) hl ht hs (by kernel_rfl) h
end Go.Proofs.YtahbikfbjenfpaaGreatDoor
