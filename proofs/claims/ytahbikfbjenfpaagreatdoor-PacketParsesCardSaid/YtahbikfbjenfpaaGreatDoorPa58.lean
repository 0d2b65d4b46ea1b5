/- The reference of packets: said, connect. The reference of packets: Right. -/
import Derived.Test.YtahbikfbjenfpaaGreatDoorPa44
import Derived.Test.YtahbikfbjenfpaaGreatDoorPa55
import Derived.Deep.DeepCutAuto
import Derived.Test.YtahbikfbjenfpaaGreatDoorPa53
set_option maxHeartbeats 4000000
set_option maxRecDepth 100000
namespace Go.Proofs.YtahbikfbjenfpaaGreatDoor
open Tryz Go.RowKit Go.Shelf

theorem vA (w:au)(s:aG)(n:Nat)(hs:s.length<=60000):Calls prog 92 #[.string ⟨s.toArray⟩,.int .i64 (n:Int)] w (aJ w (dW s n)):=by
 obtain⟨S,hS⟩:∃S:ByteArray,(⟨s.toArray⟩:ByteArray)=S:=⟨_,rfl⟩;have hz:S.size=s.length:=by rw[<-hS];rfl
 have HR:=zh (show∀w:au,Calls prog 147 #[.string S] w (DK w s)from λw=>by
  rw[<-hS];exact vH w s hs)
 rw[hS];clear hS
 by_cases h2:n < s.length
 ·have HT:=zh (show dW s n=false by unfold dW;rw[aZ (by omega)];rfl)
  go_enter func92,ntmps92
  go_wp2_with fail
  go_ret;exact⟨by rw[HT.o];rfl,ae.refl _ _⟩
 ·have HT:=zh (show dW s n=fB s by
   unfold dW;rw[bz (by omega)];rfl)
  have hq:¬(s.length:Int) > (n:Int):=by omega
  clear h2
  go_enter func92,ntmps92
  go_wp2_with fail
  refine(HR.o _).mono ?_;rintro e w1 ⟨v,a,rfl,ha,hk⟩;have HK:=zh hk;clear hk
  cases hg:fB s with
  | true=>
   rw[hg,aE rfl]at ha;subst ha;rw[hg]at HT;clear hg
   go_wp2_with fail
   go_ret;exact⟨by rw[HT.o];rfl,HK.o⟩
  | false=>
   rw[hg,aj (by simp)]at ha;rw[hg]at HT;have hb:decide (a < 0)=false:=aZ (by omega);clear hg ha
   go_wp2_with fail
   go_ret;exact⟨by rw[HT.o];rfl,HK.o⟩
/-- What connect is told: its texts by their bytes alone. -/
structure Sm (w:au)(p:Pk)(X:Array Value)(C WT WB U PW:ByteArray)(s1 s2 nm:Bool):Prop where
 c7:X[7]? =some (.string C)
 c8:X[8]? =some (.bool p.cl)
 c9:X[9]? =some (.int .i64 p.keep)
 c10:X[10]? =some (.bool p.hw)
 c11:X[11]? =some (.string WT)
 c12:X[12]? =some (.string WB)
 c13:X[13]? =some (.int .i64 p.wq)
 c14:X[14]? =some (.bool p.wr)
 c15:X[15]? =some (.bool p.hu)
 c16:X[16]? =some (.bool p.hp)
 c17:X[17]? =some (.string U)
 c18:X[18]? =some (.string PW)
 e7:C.toList=p.c
 e11:WT.toList=p.wt
 e12:WB.toList=p.wb/\WB.size=p.wb.length
 WI:U.toList=p.u
 WH:PW.toList=p.pw/\PW.size=p.pw.length
 sc:∀W,Calls prog 92 #[.string C,.int .i64 23] W (aJ W s1)
 su:∀W,Calls prog 92 #[.string U,.int .i64 200] W (aJ W s2)
 nm:∀W,Calls prog 27 #[.string WT] W λe w' =>e= .returned (.bool nm)/\ae W w' []
theorem zx (p:Pk)(X:Array Value)(C WT WB U PW:ByteArray)(s1 s2 nm z1 z2 z3 z4:Bool)(w:au)(h:Sm w p X C WT WB U PW s1 s2 nm)
  (hz1:(!s1 || ((C.toList.isEmpty && !p.cl) || (decide (p.keep < 0) || decide (65535 < p.keep))))=z1)
  (hz2:((p.hw && (!nm || (decide (2000 < (WB.size:Int)) || (decide (p.wq < 0) || decide (2 < p.wq))))) || (!p.hw && !(WT.toList.isEmpty && (WB.toList.isEmpty && (decide (p.wq=0) && !p.wr)))))=z2)
  (hz3:((p.hu && !s2) || (!p.hu && (!U.toList.isEmpty || p.hp)))=z3)
  (KD:((p.hp && decide ((PW.size:Int)<=200)) || (!p.hp && PW.toList.isEmpty))=z4):
  Calls prog 26 #[.agg X] w (aJ w (!z1 && (!z2 && (!z3 && z4)))):=by
 have HX:=zh h;have FZ:=zh hz1;have Np:=zh hz2;have Qe:=zh hz3;have TD:=zh KD;clear h hz1 hz2 hz3 KD;obtain⟨W0,aV⟩:∃W0,w.alloc (.cells X 29)=W0:=⟨_,rfl⟩;have HR:=zh (show ae w W0 []/\Row W0 w.heap.size 29 X from by
  rw[<-aV];exact⟨ae.alloc _ _,Row.new _ _ _⟩)
 go_enter func26,ntmps26
 go_upto_region 1 with fail
 try rw[aV]
 clear aV;have x7:=(HR.o.2.cell 7).trans HX.o.c7
 go_cut [26] (λv wx=>v= .bool z1/\ae W0 wx [])
 case first=>
  have HK:=zh (ae.refl W0 [])
  go_wp2_with fail
  refine(HX.o.sc _).mono ?_;rintro e w' ⟨rfl,hk⟩;replace HK:=zh (HK.o.ah hk);have x7:=((HR.o.2.keeps hk).cell 7).trans HX.o.c7;have x8:=((HR.o.2.keeps hk).cell 8).trans HX.o.c8;have x9:=((HR.o.2.keeps hk).cell 9).trans HX.o.c9;clear hk
  cases s1 with
  | false=>
   go_wp2_with fail
   go_meet
   exact⟨by rw[<-FZ.o];simp,HK.o⟩
  | true=>
   go_wp2_with fail
   all_goals go_meet
   all_goals
    refine⟨?_,HK.o⟩;rw[<-FZ.o]
    simp_all
 case rest=>
  obtain⟨rfl,hk1⟩:=hcut;replace HR:=zh (show ae w wc []/\Row wc w.heap.size 29 X from⟨HR.o.1.ah hk1,HR.o.2.keeps hk1⟩);clear hk1 x7 FZ
  cases z1 with
  | true=>
   go_wp2_with fail
   go_ret;exact⟨rfl,HR.o.1⟩
  | false=>
   go_upto_region 3 with fail
   have iB:=(HR.o.2.cell 10).trans HX.o.c10;have mz:=(HR.o.2.cell 11).trans HX.o.c11;have lV:=(HR.o.2.cell 12).trans HX.o.c12;have lU:=(HR.o.2.cell 13).trans HX.o.c13;have mw:=(HR.o.2.cell 14).trans HX.o.c14
   go_cut [65] (λv wy=>v= .bool z2/\ae wc wy [])
   case first=>
    have HK:=zh (ae.refl wc [])
    cases hw:p.hw with
    | true=>
     rw[hw]at iB
     go_wp2_with fail
     refine(HX.o.nm _).mono ?_;rintro e w' ⟨rfl,hk⟩;replace HK:=zh (HK.o.ah hk);have iB:=((HR.o.2.keeps hk).cell 10).trans HX.o.c10;rw[hw]at iB;have lV:=((HR.o.2.keeps hk).cell 12).trans HX.o.c12;have lU:=((HR.o.2.keeps hk).cell 13).trans HX.o.c13;clear hk
     cases nm with
     | false=>
      go_wp2_with fail
      all_goals go_meet
      all_goals
       refine⟨?_,HK.o⟩;rw[<-Np.o,hw];simp
     | true=>
      go_wp2_with fail
      all_goals go_meet
      all_goals
       refine⟨?_,HK.o⟩;rw[<-Np.o,hw]
       simp_all <;> exact Bool.or_assoc _ _ _
    | false=>
     rw[hw]at iB
     go_wp2_with fail
     all_goals go_meet
     all_goals
      refine⟨?_,HK.o⟩;rw[<-Np.o,hw]
      simp_all
   case rest=>
    obtain⟨rfl,hk1⟩:=hcut;replace HR:=zh (show ae w wc []/\Row wc w.heap.size 29 X from⟨HR.o.1.ah hk1,HR.o.2.keeps hk1⟩);clear hk1 iB mz lV lU mw Np
    cases z2 with
    | true=>
     go_wp2_with fail
     go_ret;exact⟨rfl,HR.o.1⟩
    | false=>
     go_upto_region 5 with fail
     have jf:=(HR.o.2.cell 15).trans HX.o.c15;have hU:=(HR.o.2.cell 16).trans HX.o.c16;have lT:=(HR.o.2.cell 17).trans HX.o.c17
     go_cut [87] (λv wy=>v= .bool z3/\ae wc wy [])
     case first=>
      have HK:=zh (ae.refl wc [])
      cases hu:p.hu with
      | true=>
       rw[hu]at jf
       go_wp2_with fail
       refine(HX.o.su _).mono ?_;rintro e w' ⟨rfl,hk⟩;replace HK:=zh (HK.o.ah hk);have jf:=((HR.o.2.keeps hk).cell 15).trans HX.o.c15;rw[hu]at jf;have lT:=((HR.o.2.keeps hk).cell 17).trans HX.o.c17;have hU:=((HR.o.2.keeps hk).cell 16).trans HX.o.c16;clear hk
       cases s2 with
       | false=>
        go_wp2_with fail
        all_goals go_meet
        all_goals
         refine⟨?_,HK.o⟩;rw[<-Qe.o,hu];simp
       | true=>
        go_wp2_with fail
        all_goals go_meet
        all_goals
         refine⟨?_,HK.o⟩;rw[<-Qe.o,hu]
         simp_all
      | false=>
       rw[hu]at jf
       go_wp2_with fail
       all_goals go_meet
       all_goals
        refine⟨?_,HK.o⟩;rw[<-Qe.o,hu]
        simp_all
     case rest=>
      obtain⟨rfl,hk1⟩:=hcut;replace HR:=zh (show ae w wc []/\Row wc w.heap.size 29 X from⟨HR.o.1.ah hk1,HR.o.2.keeps hk1⟩);clear hk1 jf hU lT Qe
      cases z3 with
      | true=>
       go_wp2_with fail
       go_ret;exact⟨rfl,HR.o.1⟩
      | false=>
       have hU:=(HR.o.2.cell 16).trans HX.o.c16;have mL:=(HR.o.2.cell 18).trans HX.o.c18
       cases hp:p.hp with
       | true=>
        rw[hp]at hU
        go_wp2_with fail
        all_goals go_ret
        all_goals
         refine⟨?_,HR.o.1⟩;rw[<-TD.o,hp]
         simp_all
       | false=>
        rw[hp]at hU
        go_wp2_with fail
        all_goals go_ret
        all_goals
         refine⟨?_,HR.o.1⟩;rw[<-TD.o,hp]
         simp_all
theorem um (a b:Int):decide (a < b)= !decide (b<=a):=by
 rw[<-decide_not];exact decide_eq_decide.2 (by omega)
theorem JK (p:Pk)(h1:p.k=1):(!(!dW p.c 23 || ((p.c.isEmpty && !p.cl) || (decide (p.keep < 0) || decide (65535 < p.keep)))) && (!((p.hw && (!fW p.wt || (decide (2000 < (p.wb.length:Int)) || (decide (p.wq < 0) || decide (2 < p.wq))))) || (!p.hw && !(p.wt.isEmpty && (p.wb.isEmpty && (decide (p.wq=0) && !p.wr))))) && (!((p.hu && !dW p.u 200) || (!p.hu && (!p.u.isEmpty || p.hp))) && ((p.hp && decide ((p.pw.length:Int)<=200)) || (!p.hp && p.pw.isEmpty)))))=cK p:=by
 unfold cK;rw[aE h1];have e1:(!(!dW p.c 23 || ((p.c.isEmpty && !p.cl) || (decide (p.keep < 0) || decide (65535 < p.keep)))))=(dW p.c 23 && ((p.cl || !p.c.isEmpty) && dz p.keep 0 65535)):=by
  unfold dz;rw[um,um]
  generalize dW p.c 23=a,p.c.isEmpty=b,p.cl=c,decide (0<=p.keep)=d,decide (p.keep<=65535)=e
  revert a b c d e
  decide
 have e2:(!((p.hw && (!fW p.wt || (decide (2000 < (p.wb.length:Int)) || (decide (p.wq < 0) || decide (2 < p.wq))))) || (!p.hw && !(p.wt.isEmpty && (p.wb.isEmpty && (decide (p.wq=0) && !p.wr))))))=o7 p:=by
  unfold o7 dz;rw[um,um,um,show decide ((p.wb.length:Int)<=2000)=decide (p.wb.length<=2000)from decide_eq_decide.2 (by omega),show(p.wq==0)=decide (p.wq=0)from rfl]
  generalize p.hw=h,fW p.wt=a,p.wt.isEmpty=b,p.wb.isEmpty=c,decide (0<=p.wq)=d,decide (p.wq<=2)=e,decide (p.wb.length<=2000)=f,decide (p.wq=0)=g,p.wr=i
  revert h a b c d e f g i
  decide
 have e3:(!((p.hu && !dW p.u 200) || (!p.hu && (!p.u.isEmpty || p.hp))))=o8 p:=by
  unfold o8
  generalize dW p.u 200=a,p.hu=b,p.u.isEmpty=c,p.hp=d
  revert a b c d
  decide
 have e4:((p.hp && decide ((p.pw.length:Int)<=200)) || (!p.hp && p.pw.isEmpty))=o9 p:=by
  unfold o9;rw[show decide ((p.pw.length:Int)<=200)=decide (p.pw.length<=200)from decide_eq_decide.2 (by omega)]
  generalize p.hp=a,p.pw.isEmpty=b,decide (p.pw.length<=200)=c
  revert a b c
  decide
 rw[e1,e2,e3,e4,Bool.and_assoc,Bool.and_assoc]
theorem BG (p:Pk)(sw sc sf:Value)(w:au)(h1:p.k=1)(hc:p.c.length<=60000)(ht:p.wt.length<=60000)(hu:p.u.length<=60000):Calls prog 26 #[eO p sw sc sf] w (aJ w (cK p)):=by
 obtain⟨X,eX,hX⟩:=jA.of p sw sc sf;rw[eX,<-JK p h1];refine zx p X _ _ _ _ _ (dW p.c 23) (dW p.u 200) (fW p.wt) _ _ _ _ w ⟨hX.c7,hX.c8,hX.c9,hX.c10,hX.c11,hX.c12,hX.c13,hX.c14,hX.c15,hX.c16,hX.c17,hX.c18,Lib.toList_data _,Lib.toList_data _,⟨Lib.toList_data _,rfl⟩,Lib.toList_data _,⟨Lib.toList_data _,rfl⟩,λW=>vA W p.c 23 hc,λW=>vA W p.u 200 hu,λW=>xQ W p.wt ht⟩ ?_ ?_ ?_ ?_
 ·rw[Lib.toList_data]
 ·rw[Lib.toList_data,Lib.toList_data]
  rfl
 ·rw[Lib.toList_data]
 ·rw[Lib.toList_data]
  rfl

theorem GP {p:Pk}(h:¬(1<=p.k/\p.k<=14)):fD p=false:=by
 unfold fD;rw[show dz p.k 1 14=false from Bool.eq_false_iff.2 (λe=>h (bW.1 e))];rfl
theorem GQ {p:Pk}(h:1<=p.k/\p.k<=14)(ha:aL p=p):fD p=cK p:=by
 unfold fD;rw[bW.2 h,bz ha,Bool.and_true,Bool.true_and]
theorem Eh {p:Pk}(ha:¬aL p=p):fD p=false:=by
 unfold fD;rw[aZ ha,xm,xm]
theorem ng (p:Pk):(aL p).wants.length<=p.wants.length/\(aL p).aF.length<=p.aF.length/\(aL p).fs.length<=p.fs.length:=by
 unfold aL bN
 repeat' split
 all_goals simp
theorem JJ (p:Pk)(h:p.k=3):(!(!fW p.t || (decide (2000 < (p.b.length:Int)) || (decide (p.q < 0) || decide (2 < p.q)))) && ((decide (0 < p.q) && qo p) || ((decide (p.q=0) && decide (p.id=0)) && !p.dup)))=cK p:=by
 unfold cK;rw[aj (by omega),aj (by omega),aE h,show(p.id==0)=decide (p.id=0)from rfl,um 2000,um 2,show decide ((p.b.length:Int)<=2000)=decide (p.b.length<=2000)from decide_eq_decide.2 (by omega)];unfold dz
 by_cases hq:p.q=0
 ·rw[aE hq,hq]
  generalize qo p=i,fW p.t=a,p.dup=d,decide (p.id=0)=e,decide (p.b.length<=2000)=f
  revert i a d e f
  decide
 ·rw[aj hq,aZ hq,um p.q,show decide (0 < p.q)=decide (0<=p.q)from decide_eq_decide.2 (by omega)]
  generalize qo p=i,fW p.t=a,p.dup=d,decide (p.id=0)=e,decide (p.b.length<=2000)=f,decide (0<=p.q)=g,decide (p.q<=2)=m
  revert i a d e f g m
  decide
/-- A packet's texts are of a machine's length. -/
structure Ip (p:Pk):Prop where
 t:p.t.length<=60000
 c:p.c.length<=60000
 wt:p.wt.length<=60000
 u:p.u.length<=60000
 w:∀x∈p.wants,x.1.length<=60000
 f:∀x∈p.fs,x.length<=60000
theorem sy {α:Type}{z:Bool}{l:List α}{f:α->Bool}(h:l.all f=false):(z && cO l f)=false:=by
 unfold cO;rw[h,xm,xm,xm]
theorem vS {α:Type}{z:Bool}{l:List α}{f:α->Bool}(h:l.all f=true):(z && cO l f)=(z && (decide ((1:Int)<=l.length) && decide ((l.length:Int)<=8))):=by
 unfold cO;rw[h,Bool.and_true,show decide ((1:Int)<=l.length)=decide (1<=l.length)from decide_eq_decide.2 (by omega),show decide ((l.length:Int)<=8)=decide (l.length<=8)from decide_eq_decide.2 (by omega)]
theorem fR.wants {w:au}{p:Pk}{A:Option Addr}{n c:Nat}{sc sf:Value}(h:fR w p (.slice A n c) sc sf):cY w 2 gK A p.wants:=by
 obtain⟨_,_,e,g⟩:=h.lw;injection e with e
 exact e▸g
theorem fR.aF {w:au}{p:Pk}{A:Option Addr}{n c:Nat}{sw sf:Value}(h:fR w p sw (.slice A n c) sf):cY w 1 jJ A p.aF:=by
 obtain⟨_,_,e,g⟩:=h.lc;injection e with e
 exact e▸g
theorem fR.fs {w:au}{p:Pk}{A:Option Addr}{n c:Nat}{sw sc:Value}(h:fR w p sw sc (.slice A n c)):cY w 1 fC A p.fs:=by
 obtain⟨_,_,e,g⟩:=h.lf;injection e with e
 exact e▸g
theorem Au (p:Pk)(X:Array Value)(sw sc sf:Value)(w:au)(eX:eO p sw sc sf= .agg X)(hX:jA p X sw sc sf)(hl:fR w p sw sc sf)(ht:Ip p)(hs:p.wants.length<=1000000/\p.aF.length<=1000000/\p.fs.length<=1000000)(hx:(Tryz.prog.info? 29).map (·.size)=some X.size)(hkk:¬(p.k=8\/p.k=9\/p.k=10)):
  Calls prog 12 #[.agg X] w (aJ w (fD p)):=by
 have jB:=zh hkk;clear hkk;obtain⟨A1,c1,A2,c2,A3,c3,rfl,rfl,rfl⟩:=hl.slices;have HX:=zh hX;have HS:=zh hs;have HT:=zh ht;have HZ:=zh (And.intro eX hx);obtain⟨W0,aV⟩:∃W0,w.alloc (.cells X 29)=W0:=⟨_,rfl⟩;have HR:=zh (show ae w W0 []/\Row W0 w.heap.size 29 X from by
  rw[<-aV];exact⟨ae.alloc _ _,Row.new _ _ _⟩)
 have HL:=zh (hl.keeps HR.o.1);clear hX hs hl eX hx ht
 go_enter func12,ntmps12
 go_upto_region 1 with fail
 try rw[aV]
 clear aV;have x0:=(HR.o.2.cell 0).trans HX.o.c0
 go_upto_region 2 with fail
 by_cases h1:p.k < 1
 ·have hb:decide (p.k < 1)=true:=bz h1
  have HF:=zh (GP (p:=p) (by omega));clear h1 x0;refine aB _ (by kernel_rfl) rfl (by kernel_rfl) ?_;refine ls ?_;simp only[af];refine aK (.bool true) (λ_=>by kernel_rfl) (λW _=>(show _=Result.ok (Next.value (.bool (decide (p.k < 1)))) W by kernel_rfl).trans (by rw[hb])) ?_;refine ls ?_
  iterate 2
   simp only[af];refine lo ?_
  iterate 2
   simp only[af];refine ls ?_
  iterate 5
   simp only[af];refine lo ?_
  simp only[af];refine ls ?_;simp only[af];refine aq (λW vals hW ag=> ?_);simp only[aw]at ag
  try simp only[ai]at ag
  simp only[fill,Act.put,bo,bn,bh];have HK:=zh hW;clear hW
  go_wp2_with fail
  go_ret;exact⟨by rw[HF.o];rfl,HR.o.1.ah HK.o⟩
 have hb:decide (p.k < 1)=false:=aZ h1
 by_cases h2:14 < p.k
 ·have hb2:decide (14 < p.k)=true:=bz h2
  have HF:=zh (GP (p:=p) (by omega));clear h1 h2 x0;refine aB _ (by kernel_rfl) rfl (by kernel_rfl) ?_;refine ls ?_;simp only[af];refine aK (.bool false) (λ_=>by kernel_rfl) (λW _=>(show _=Result.ok (Next.value (.bool (decide (p.k < 1)))) W by kernel_rfl).trans (by rw[hb])) ?_
  iterate 2
   refine ls ?_;simp only[af]
  refine aK (.bool true) (λ_=>by kernel_rfl) (λW _=>(show _=Result.ok (Next.value (.bool (decide (14 < p.k)))) W by kernel_rfl).trans (by rw[hb2])) ?_
  iterate 2
   refine ls ?_;simp only[af]
  iterate 5
   refine lo ?_;simp only[af]
  refine ls ?_;simp only[af];refine aq (λW vals hW ag=> ?_);simp only[aw]at ag
  try simp only[ai]at ag
  simp only[fill,Act.put,bo,bn,bh];have HK:=zh hW;clear hW
  go_wp2_with fail
  go_ret;exact⟨by rw[HF.o];rfl,HR.o.1.ah HK.o⟩
 have hb2:decide (14 < p.k)=false:=aZ h2;have mI:=zh (show 1<=p.k/\p.k<=14 by omega);clear h1 h2 x0;have PD:=zh (λW (hW:ae W0 W [])=>ym p X _ _ _ W HX.o (HL.o.keeps hW) mI.o);have F4:=zh (λrK rO rN W (hW:ae W0 W []) (h:fR W (aL p) rK rO rN)=>HZ.o.1▸mg (aL p) p rK rO rN _ _ _ W h (HL.o.keeps hW) ⟨cH (ng p).1 HS.o.1,cH (ng p).2.1 HS.o.2.1,cH (ng p).2.2 HS.o.2.2⟩);refine aB _ (by kernel_rfl) rfl (by kernel_rfl) ?_;refine ls ?_;simp only[af];refine aK (.bool false) (λ_=>by kernel_rfl) (λW _=>(show _=Result.ok (Next.value (.bool (decide (p.k < 1)))) W by kernel_rfl).trans (by rw[hb])) ?_
 iterate 2
  refine ls ?_;simp only[af]
 refine aK (.bool false) (λ_=>by kernel_rfl) (λW _=>(show _=Result.ok (Next.value (.bool (decide (14 < p.k)))) W by kernel_rfl).trans (by rw[hb2])) ?_
 iterate 2
  refine ls ?_;simp only[af]
 refine lx (λW hW=>HR.o.2.keeps hW) underlying29 HZ.o.2 ?_;simp only[af];refine bH (λv W' =>∃rK rO rN,v=eO (aL p) rK rO rN /\fR W' (aL p) rK rO rN) (λW vals hW ag φ' hφ=> ?_) ?_
 ·simp only[knows]at ag
  try simp only[ai]at ag
  clear ag;refine⟨?_⟩;simp only[fill];go_simp;refine aC ((PD.o W hW).mono ?_);rintro e w' ⟨rK,rO,rN,rfl,hl',hk⟩;exact⟨_,rfl,hk,hφ.o _ _ ⟨_,_,_,rfl,hl' _ (HL.o.keeps (hW.ah hk))⟩⟩
 simp only[af];refine lx (λW hW=>HR.o.2.keeps hW) underlying29 HZ.o.2 ?_;simp only[af];apply ak
 ·intro W vals hW ag
  simp only[knows]at ag
  try simp only[ai]at ag
  obtain⟨W1,q0,q1,rK,rO,rN,hv,hpl⟩:=ag (by decide);clear ag;refine⟨?_⟩;simp only[fill];go_simp;refine aC ?_;exact(F4.o rK rO rN W hW (hpl.keeps q1)).mono (by rintro e w3 ⟨rfl,hk⟩;exact⟨_,rfl,hk,rfl⟩)
 iterate 2
  simp only[af];refine ls ?_
 simp only[af];refine aq (λW vals hW ag=> ?_);simp only[aw]at ag
 try simp only[ai]at ag
 simp only[fill,Act.put,bo,bn,bh];clear ag hb hb2 PD F4;replace HR:=zh (show ae w W []/\Row W w.heap.size 29 X from⟨HR.o.1.ah hW,HR.o.2.keeps hW⟩);replace HL:=zh (HL.o.keeps hW);clear hW;obtain⟨za,G0⟩:∃z,decide (aL p=p)=z:=⟨_,rfl⟩;rw[G0]
 cases za with
 | false=>
  have HF:=zh (Eh (xo G0));clear G0
  go_wp2_with fail
  go_ret;exact⟨by rw[HF.o];rfl,HR.o.1⟩
 | true=>
 have HF:=zh (GQ mI.o (qj G0));clear G0
 go_upto_region 4 with fail
 have x6:=(HR.o.2.cell 6).trans HX.o.c6;obtain⟨zi,NU⟩:∃z,qo p=z:=⟨_,rfl⟩;have HI:=zh NU;clear NU
 go_cut [4] (λv wx=>v= .bool zi/\ae W wx [])
 case first=>
  have HK:=zh (ae.refl W [])
  go_wp2_with fail
  all_goals go_meet
  all_goals
   refine⟨?_,HK.o⟩;rw[<-HI.o];unfold qo dz
   simp_all <;> omega
 case rest=>
  obtain⟨rfl,hk1⟩:=hcut;replace HR:=zh (show ae w wc []/\Row wc w.heap.size 29 X from⟨HR.o.1.ah hk1,HR.o.2.keeps hk1⟩);replace HL:=zh (HL.o.keeps hk1);clear hk1 x6;obtain⟨k,hk⟩:∃k,p.k=k:=⟨_,rfl⟩
  try rw[hk]
  have gp:=zh hk;clear hk;have hcs:k=1\/k=2\/k=3\/(k=12\/k=13\/k=14)\/(k=4\/k=5\/k=6\/k=7\/k=11):=by
   have h1:=mI.o;have h2:=jB.o;rw[gp.o]at h1 h2;omega
  rcases hcs with rfl | rfl | rfl | h | h
  ·have HC:=zh (λW=>HZ.o.1▸BG p _ _ _ W gp.o HT.o.c HT.o.wt HT.o.u)
   go_wp2_with (refine bf (by kernel_rfl) rfl rfl HR.o.2 underlying29 rfl HZ.o.2 ?_)
   refine(HC.o _).mono ?_;rintro e w' ⟨rfl,hk⟩;replace HR:=zh (HR.o.1.ah hk);clear hk
   go_wp2_with fail
   go_ret;exact⟨by rw[HF.o];rfl,HR.o⟩
  ·have HM:Hid (cK p=(dz p.code 0 5 && (p.code==0 || !p.pr))):=zh (by unfold cK;rw[aj (by rw[gp.o];decide),aE gp.o])
   have mK:=(HR.o.2.cell 19).trans HX.o.c19;have x20:=(HR.o.2.cell 20).trans HX.o.c20
   go_wp2_with fail
   all_goals go_ret
   all_goals
    refine⟨?_,HR.o.1⟩;rw[HF.o,HM.o];clear HF HM HI HT HX HZ HS mI HL gp;unfold dz
    simp_all <;> omega
  ·have HN:=zh (λW=>xQ W p.t HT.o.t)
   have HM:=zh (JJ p gp.o);obtain⟨z1,hz1⟩:∃z,(!fW p.t || (decide (2000 < (p.b.length:Int)) || (decide (p.q < 0) || decide (2 < p.q))))=z:=⟨_,rfl⟩;have FZ:=zh hz1;have x4:=(HR.o.2.cell 4).trans HX.o.c4;clear hz1
   go_upto_region 11 with fail
   go_cut [78] (λv wy=>v= .bool z1/\ae wc wy [])
   case first=>
    have HK:=zh (ae.refl wc [])
    go_wp2_with fail
    refine(HN.o _).mono ?_;rintro e w' ⟨rfl,hk⟩;replace HK:=zh (HK.o.ah hk);have x5:=((HR.o.2.keeps hk).cell 5).trans HX.o.c5;have x3:=((HR.o.2.keeps hk).cell 3).trans HX.o.c3;clear hk;obtain⟨zn,SR⟩:∃z,fW p.t=z:=⟨_,rfl⟩;rw[SR]at FZ ⊢
    clear SR;have hbs:((⟨p.b.toArray⟩:ByteArray).size:Int)=(p.b.length:Int):=rfl
    cases zn with
    | false=>
     go_wp2_with fail
     all_goals go_meet
     all_goals
      refine⟨?_,HK.o⟩;rw[<-FZ.o];simp
    | true=>
     go_wp2_with fail
     all_goals go_meet
     all_goals
      refine⟨?_,HK.o⟩;rw[<-FZ.o];clear HM HF HI HT HX HZ HS mI HL gp FZ HN
      simp_all <;> first | omega | exact Bool.or_assoc _ _ _
   case rest=>
    obtain⟨rfl,hk1⟩:=hcut;replace HR:=zh (show ae w wc []/\Row wc w.heap.size 29 X from⟨HR.o.1.ah hk1,HR.o.2.keeps hk1⟩);clear hk1 x4;rw[FZ.o]at HM;clear FZ
    cases z1 with
    | true=>
     go_wp2_with fail
     go_ret;exact⟨by rw[HF.o,<-HM.o];rfl,HR.o.1⟩
    | false=>
     have x1:=(HR.o.2.cell 1).trans HX.o.c1;have x3:=(HR.o.2.cell 3).trans HX.o.c3;have x6:=(HR.o.2.cell 6).trans HX.o.c6;rw[HI.o]at HM
     go_wp2_with fail
     all_goals go_ret
     all_goals
      refine⟨?_,HR.o.1⟩;rw[HF.o,<-HM.o];clear HM HF HI HT HX HZ HS mI HL gp HN
      simp_all <;> omega
  ·have HM:Hid (cK p=true):=zh (by unfold cK;rw[gp.o];rcases h with rfl | rfl | rfl <;> rfl)
   rcases h with rfl | rfl | rfl
   all_goals
    go_wp2_with fail
    go_ret;exact⟨by rw[HF.o,HM.o];rfl,HR.o.1⟩
  ·have HM:Hid (cK p=zi):=zh (by rw[<-HI.o];unfold cK;rw[gp.o];rcases h with rfl | rfl | rfl | rfl | rfl <;> rfl)
   rcases h with rfl | rfl | rfl | rfl | rfl
   all_goals
    go_wp2_with fail
    go_ret;exact⟨by rw[HF.o,HM.o];rfl,HR.o.1⟩
theorem Ar (p:Pk)(X:Array Value)(sw sc sf:Value)(w:au)(eX:eO p sw sc sf= .agg X)(hX:jA p X sw sc sf)(hl:fR w p sw sc sf)(ht:Ip p)(hs:p.wants.length<=1000000/\p.aF.length<=1000000/\p.fs.length<=1000000)(hx:(Tryz.prog.info? 29).map (·.size)=some X.size)(hkk:p.k=8\/p.k=9\/p.k=10):
  Calls prog 12 #[.agg X] w (aJ w (fD p)):=by
 have jB:=zh hkk;clear hkk;obtain⟨A1,c1,A2,c2,A3,c3,rfl,rfl,rfl⟩:=hl.slices;have HX:=zh hX;have HS:=zh hs;have HT:=zh ht;have HZ:=zh (And.intro eX hx);obtain⟨W0,aV⟩:∃W0,w.alloc (.cells X 29)=W0:=⟨_,rfl⟩;have HR:=zh (show ae w W0 []/\Row W0 w.heap.size 29 X from by
  rw[<-aV];exact⟨ae.alloc _ _,Row.new _ _ _⟩)
 have HL:=zh (hl.keeps HR.o.1);clear hX hs hl eX hx ht
 go_enter func12,ntmps12
 go_upto_region 1 with fail
 try rw[aV]
 clear aV;have x0:=(HR.o.2.cell 0).trans HX.o.c0
 go_upto_region 2 with fail
 have hb:decide (p.k < 1)=false:=aZ (by have:=jB.o;omega);have hb2:decide (14 < p.k)=false:=aZ (by have:=jB.o;omega);have mI:=zh (show 1<=p.k/\p.k<=14 by have:=jB.o;omega);clear x0;have PD:=zh (λW (hW:ae W0 W [])=>ym p X _ _ _ W HX.o (HL.o.keeps hW) mI.o);have F4:=zh (λrK rO rN W (hW:ae W0 W []) (h:fR W (aL p) rK rO rN)=>HZ.o.1▸mg (aL p) p rK rO rN _ _ _ W h (HL.o.keeps hW) ⟨cH (ng p).1 HS.o.1,cH (ng p).2.1 HS.o.2.1,cH (ng p).2.2 HS.o.2.2⟩);refine aB _ (by kernel_rfl) rfl (by kernel_rfl) ?_;refine ls ?_;simp only[af];refine aK (.bool false) (λ_=>by kernel_rfl) (λW _=>(show _=Result.ok (Next.value (.bool (decide (p.k < 1)))) W by kernel_rfl).trans (by rw[hb])) ?_
 iterate 2
  refine ls ?_;simp only[af]
 refine aK (.bool false) (λ_=>by kernel_rfl) (λW _=>(show _=Result.ok (Next.value (.bool (decide (14 < p.k)))) W by kernel_rfl).trans (by rw[hb2])) ?_
 iterate 2
  refine ls ?_;simp only[af]
 refine lx (λW hW=>HR.o.2.keeps hW) underlying29 HZ.o.2 ?_;simp only[af];refine bH (λv W' =>∃rK rO rN,v=eO (aL p) rK rO rN /\fR W' (aL p) rK rO rN) (λW vals hW ag φ' hφ=> ?_) ?_
 ·simp only[knows]at ag
  try simp only[ai]at ag
  clear ag;refine⟨?_⟩;simp only[fill];go_simp;refine aC ((PD.o W hW).mono ?_);rintro e w' ⟨rK,rO,rN,rfl,hl',hk⟩;exact⟨_,rfl,hk,hφ.o _ _ ⟨_,_,_,rfl,hl' _ (HL.o.keeps (hW.ah hk))⟩⟩
 simp only[af];refine lx (λW hW=>HR.o.2.keeps hW) underlying29 HZ.o.2 ?_;simp only[af];apply ak
 ·intro W vals hW ag
  simp only[knows]at ag
  try simp only[ai]at ag
  obtain⟨W1,q0,q1,rK,rO,rN,hv,hpl⟩:=ag (by decide);clear ag;refine⟨?_⟩;simp only[fill];go_simp;refine aC ?_;exact(F4.o rK rO rN W hW (hpl.keeps q1)).mono (by rintro e w3 ⟨rfl,hk⟩;exact⟨_,rfl,hk,rfl⟩)
 iterate 2
  simp only[af];refine ls ?_
 simp only[af];refine aq (λW vals hW ag=> ?_);simp only[aw]at ag
 try simp only[ai]at ag
 simp only[fill,Act.put,bo,bn,bh];clear ag hb hb2 PD F4;replace HR:=zh (show ae w W []/\Row W w.heap.size 29 X from⟨HR.o.1.ah hW,HR.o.2.keeps hW⟩);replace HL:=zh (HL.o.keeps hW);clear hW;obtain⟨za,G0⟩:∃z,decide (aL p=p)=z:=⟨_,rfl⟩;rw[G0]
 cases za with
 | false=>
  have HF:=zh (Eh (xo G0));clear G0
  go_wp2_with fail
  go_ret;exact⟨by rw[HF.o];rfl,HR.o.1⟩
 | true=>
 have HF:=zh (GQ mI.o (qj G0));clear G0
 go_upto_region 4 with fail
 have x6:=(HR.o.2.cell 6).trans HX.o.c6;obtain⟨zi,NU⟩:∃z,qo p=z:=⟨_,rfl⟩;have HI:=zh NU;clear NU
 go_cut [4] (λv wx=>v= .bool zi/\ae W wx [])
 case first=>
  have HK:=zh (ae.refl W [])
  go_wp2_with fail
  all_goals go_meet
  all_goals
   refine⟨?_,HK.o⟩;rw[<-HI.o];unfold qo dz
   simp_all <;> omega
 case rest=>
  obtain⟨rfl,hk1⟩:=hcut;replace HR:=zh (show ae w wc []/\Row wc w.heap.size 29 X from⟨HR.o.1.ah hk1,HR.o.2.keeps hk1⟩);replace HL:=zh (HL.o.keeps hk1);clear hk1 x6;obtain⟨k,hk⟩:∃k,p.k=k:=⟨_,rfl⟩
  try rw[hk]
  have gp:=zh hk;clear hk;have hcs:k=8\/k=9\/k=10:=by
   have h2:=jB.o
   rwa [gp.o]at h2
  rcases hcs with rfl | rfl | rfl
  ·have HM:Hid (cK p=(zi && cO p.wants λw=>cD w.1 && dz w.2 0 2)):=zh (by rw[<-HI.o];unfold cK;rw[gp.o];rfl)
   have wF:=zh HL.o.wants;have hlen:=HS.o.1;obtain⟨okW,vY⟩:∃f:aG×Int->Bool,(λw=>cD w.1 && dz w.2 0 2)=f:=⟨_,rfl⟩;rw[vY]at HM;have HOW:=zh (λw=>(congrFun vY w).symm);clear vY
   go_wp2_with fail
   go_loopw [5] (λi wr=>∃j:Nat,j<=p.wants.length/\i= .int .i64 j/\Hid ((p.wants.take j).all okW=true/\ae wc wr [])) (λi _=>p.wants.length - (intOf i).toNat)
   case atStart=>exact⟨0,by omega,rfl,zh ⟨rfl,ae.refl _ _⟩⟩
   case round=>
    obtain⟨j,hj,rfl,gH⟩:=hrel;have ju:=((HR.o.2.keeps gH.o.2).cell 21).trans HX.o.IZ
    by_cases hjl:j < p.wants.length
    ·have Ot:(j:Int) < (p.wants.length:Int):=by omega
     obtain⟨b1,o1,cs1,rfl,hr1,hc1⟩:=wF.o (by omega);have tP:=zh (λh:okW p.wants[j]=true=>show(p.wants.take (j+1)).all okW=true by rw[hO hjl,List.all_append,gH.o.1];simp[h]);have gZ:=zh (λh:okW p.wants[j]=false=>show p.wants.all okW=false from List.all_eq_false.2 ⟨p.wants[j],fS _,by simp[h]⟩);have Iw:=HT.o.w _ (fS hjl);have hc1:=hc1 j hjl
     generalize p.wants[j]=x at*
     obtain⟨x1,x2⟩:=x;have R_:=zh (λW=>ud W x1 Iw);have M2:=λ(W' :au) (hW:ae wr W' [])=>((hr1.keeps (gH.o.2.ah hW)).cell (o1+j*2+1)).trans (hc1 1 (by omega))
     simp only[gK,fe,bU]at M2;have VL:=zh M2;clear M2;have M1:=((hr1.keeps gH.o.2).cell (o1+j*2+0)).trans (hc1 0 (by omega));simp only[gK,bU,fj]at M1;clear hc1 hr1 Iw
     go_wp2_with fail
     refine(R_.o _).mono ?_;rintro e w' ⟨rfl,hk⟩;have HK:=zh (gH.o.2.ah hk);have ju:=((HR.o.2.keeps HK.o).cell 21).trans HX.o.IZ;have M2:=VL.o w' hk;clear hk
     cases hf:cD x1 with
     | false=>
      have HD:=zh (gZ.o (by rw[HOW.o];show(cD x1 && _)=false;rw[hf];rfl));clear hf
      go_wp2_with fail
      go_ret;exact⟨by rw[HF.o,HM.o,sy HD.o];rfl,HR.o.1.ah HK.o⟩
     | true=>
      by_cases PR:x2 < 0
      ·have HD:=zh (gZ.o (by rw[HOW.o];show(cD x1 && dz x2 0 2)=false;unfold dz;simp;omega))
       go_wp2_with fail
       go_ret;exact⟨by rw[HF.o,HM.o,sy HD.o];rfl,HR.o.1.ah HK.o⟩
      ·by_cases PQ:2 < x2
       ·have HD:=zh (gZ.o (by rw[HOW.o];show(cD x1 && dz x2 0 2)=false;unfold dz;simp;omega))
        go_wp2_with fail
        go_ret;exact⟨by rw[HF.o,HM.o,sy HD.o];rfl,HR.o.1.ah HK.o⟩
       ·have HD:=zh (tP.o (by rw[HOW.o];show(cD x1 && dz x2 0 2)=true;rw[hf,bW.2 ⟨by omega,by omega⟩];rfl))
        clear hf
        go_wp2_with fail
        exact⟨⟨j+1,by omega,by go_num,zh ⟨HD.o,HK.o⟩⟩,by simp[intOf];omega⟩
    ·obtain rfl:j=p.wants.length:=by omega
     have HA:=zh (vS (z:=zi) (by have:=gH.o.1;rwa [eQ]at this));have HK:=zh gH.o.2
     go_wp2_with fail
     all_goals go_ret
     all_goals
      refine⟨?_,HR.o.1.ah HK.o⟩;rw[HF.o,HM.o,HA.o];clear HM HF HI HT HX HZ HS mI HL gp HA wF HOW gH
      generalize p.wants.length=n at*
      simp_all <;> omega
  ·have HM:Hid (cK p=(zi && cO p.aF λc=>dz c 0 2 || c==128)):=zh (by rw[<-HI.o];unfold cK;rw[gp.o];rfl)
   have wF:=zh HL.o.aF;have hlen:=HS.o.2.1;obtain⟨okW,vY⟩:∃f:Int->Bool,(λc=>dz c 0 2 || c==128)=f:=⟨_,rfl⟩;rw[vY]at HM;have HOW:=zh (λw=>(congrFun vY w).symm);clear vY
   go_wp2_with fail
   go_loopw [6] (λi wr=>∃j:Nat,j<=p.aF.length/\i= .int .i64 j/\Hid ((p.aF.take j).all okW=true/\ae wc wr [])) (λi _=>p.aF.length - (intOf i).toNat)
   case atStart=>exact⟨0,by omega,rfl,zh ⟨rfl,ae.refl _ _⟩⟩
   case round=>
    obtain⟨j,hj,rfl,gH⟩:=hrel;have ju:=((HR.o.2.keeps gH.o.2).cell 22).trans HX.o.KQ
    by_cases hjl:j < p.aF.length
    ·have Ot:(j:Int) < (p.aF.length:Int):=by omega
     obtain⟨b1,o1,cs1,rfl,hr1,hc1⟩:=wF.o (by omega);have tP:=zh (λh:okW p.aF[j]=true=>show(p.aF.take (j+1)).all okW=true by rw[hO hjl,List.all_append,gH.o.1];simp[h]);have gZ:=zh (λh:okW p.aF[j]=false=>show p.aF.all okW=false from List.all_eq_false.2 ⟨p.aF[j],fS _,by simp[h]⟩);have hc1:=hc1 j hjl
     generalize p.aF[j]=x at*
     have M1:=((hr1.keeps gH.o.2).cell (o1+j*1+0)).trans (hc1 0 (by omega));simp only[jJ,bU,iO,fj]at M1;have HK:=zh gH.o.2;clear hc1 hr1
     by_cases hx:x=0\/x=1\/x=2\/x=128
     ·have HD:=zh (tP.o (by rw[HOW.o];rcases hx with rfl | rfl | rfl | rfl <;> decide))
      rcases hx with rfl | rfl | rfl | rfl
      all_goals
       go_wp2_with fail
       exact⟨⟨j+1,by omega,by go_num,zh ⟨HD.o,HK.o⟩⟩,by simp[intOf];omega⟩
     ·have HD:=zh (gZ.o (by rw[HOW.o];show(dz x 0 2 || x==128)=false;unfold dz;simp;omega))
      have h0:(x !=0)=true:=by simp;omega
      have h1:(x !=1)=true:=by simp;omega
      have h2:(x !=2)=true:=by simp;omega
      have h3:(x !=128)=true:=by simp;omega
      clear hx
      go_wp2_with fail
      go_ret;exact⟨by rw[HF.o,HM.o,sy HD.o];rfl,HR.o.1.ah HK.o⟩
    ·obtain rfl:j=p.aF.length:=by omega
     have HA:=zh (vS (z:=zi) (by have:=gH.o.1;rwa [eQ]at this));have HK:=zh gH.o.2
     go_wp2_with fail
     all_goals go_ret
     all_goals
      refine⟨?_,HR.o.1.ah HK.o⟩;rw[HF.o,HM.o,HA.o];clear HM HF HI HT HX HZ HS mI HL gp HA wF HOW gH
      generalize p.aF.length=n at*
      simp_all <;> omega
  ·have HM:Hid (cK p=(zi && cO p.fs cD)):=zh (by rw[<-HI.o];unfold cK;rw[gp.o];rfl)
   have wF:=zh HL.o.fs;have hlen:=HS.o.2.2;obtain⟨okW,vY⟩:∃f:aG->Bool,(cD)=f:=⟨_,rfl⟩;rw[vY]at HM;have HOW:=zh (λw=>(congrFun vY w).symm);clear vY
   go_wp2_with fail
   go_loopw [8] (λi wr=>∃j:Nat,j<=p.fs.length/\i= .int .i64 j/\Hid ((p.fs.take j).all okW=true/\ae wc wr [])) (λi _=>p.fs.length - (intOf i).toNat)
   case atStart=>exact⟨0,by omega,rfl,zh ⟨rfl,ae.refl _ _⟩⟩
   case round=>
    obtain⟨j,hj,rfl,gH⟩:=hrel;have ju:=((HR.o.2.keeps gH.o.2).cell 23).trans HX.o.KO
    by_cases hjl:j < p.fs.length
    ·have Ot:(j:Int) < (p.fs.length:Int):=by omega
     obtain⟨b1,o1,cs1,rfl,hr1,hc1⟩:=wF.o (by omega);have tP:=zh (λh:okW p.fs[j]=true=>show(p.fs.take (j+1)).all okW=true by rw[hO hjl,List.all_append,gH.o.1];simp[h]);have gZ:=zh (λh:okW p.fs[j]=false=>show p.fs.all okW=false from List.all_eq_false.2 ⟨p.fs[j],fS _,by simp[h]⟩);have Iw:=HT.o.f _ (fS hjl);have hc1:=hc1 j hjl
     generalize p.fs[j]=x at*
     have R_:=zh (λW=>ud W x Iw);have M1:=((hr1.keeps gH.o.2).cell (o1+j*1+0)).trans (hc1 0 (by omega));simp only[fC,bU,iO,fj]at M1;clear hc1 hr1 Iw
     go_wp2_with fail
     refine(R_.o _).mono ?_;rintro e w' ⟨rfl,hk⟩;have HK:=zh (gH.o.2.ah hk);clear hk
     cases hf:cD x with
     | false=>
      have HD:=zh (gZ.o (by rw[HOW.o];exact hf));clear hf
      go_wp2_with fail
      go_ret;exact⟨by rw[HF.o,HM.o,sy HD.o];rfl,HR.o.1.ah HK.o⟩
     | true=>
      have HD:=zh (tP.o (by rw[HOW.o];exact hf));clear hf
      go_wp2_with fail
      exact⟨⟨j+1,by omega,by go_num,zh ⟨HD.o,HK.o⟩⟩,by simp[intOf];omega⟩
    ·obtain rfl:j=p.fs.length:=by omega
     have HA:=zh (vS (z:=zi) (by have:=gH.o.1;rwa [eQ]at this));have HK:=zh gH.o.2
     go_wp2_with fail
     all_goals go_ret
     all_goals
      refine⟨?_,HR.o.1.ah HK.o⟩;rw[HF.o,HM.o,HA.o];clear HM HF HI HT HX HZ HS mI HL gp HA wF HOW gH
      generalize p.fs.length=n at*
      simp_all <;> omega
theorem yG (p:Pk)(sw sc sf:Value)(w:au)(hl:fR w p sw sc sf)(ht:Ip p)(hs:p.wants.length<=1000000/\p.aF.length<=1000000/\p.fs.length<=1000000):Calls prog 12 #[eO p sw sc sf] w (aJ w (fD p)):=by
 by_cases h:p.k=8\/p.k=9\/p.k=10
 ·exact Ar p _ sw sc sf w rfl (by constructor <;> rfl) hl ht hs (by kernel_rfl) h
 ·exact Au p _ sw sc sf w rfl (by constructor <;> rfl) hl ht hs (by kernel_rfl) h
end Go.Proofs.YtahbikfbjenfpaaGreatDoor
