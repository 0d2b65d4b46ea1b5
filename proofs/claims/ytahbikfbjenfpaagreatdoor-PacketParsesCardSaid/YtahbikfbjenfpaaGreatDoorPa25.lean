/- The reference of packets: what has an ID, read. The reference of packets: what has an ID and codes, read. The reference of packets: what has an ID and wants, read. -/
import Derived.Test.YtahbikfbjenfpaaGreatDoorPa23
import Derived.Test.YtahbikfbjenfpaaGreatDoorPa26
import Derived.Test.YtahbikfbjenfpaaGreatDoorPa50
set_option maxHeartbeats 4000000
set_option maxRecDepth 100000
namespace Go.Proofs.YtahbikfbjenfpaaGreatDoor
open Tryz Go.RowKit

/-- What listed answers. -/
def rm (w:au)(k:Int)(l:aG)(e:Ending)(w' :au):Prop:=ae w w' []/\match dV k l with
 | none=>∃X:Array Value,X.size=24/\X.all (·.oneCell')=true/\e= .returned (.tuple #[.agg X,.bool false])
 | some p=>∃sw sc sf,e= .returned (.tuple #[eO p sw sc sf,.bool true])/\jz w' p sw sc sf
/-- A packet's cells that have an ID alone. -/
abbrev tH (id:Int):Array Value:=(qz 0 id)
/-- What is known while the list is read. -/
structure Vt (w W:au)(b:Nat)(X:Array Value)(A:Option Addr)(c:Nat)(r:aG):Prop where
 co:lO w W b X
 rd:lL W w.heap.size A c r
def sliceLen:Value->Nat
 | .slice _ n _=>n
 | _=>0
/-- What is known while a list is read. -/
structure FN {α:Type}(w W:au)(b:Nat)(X0:Array Value)(ix:Nat)(e:TypeId)(k:Nat)(f:α->List Value)(rd:aG->Option (α×aG))(R:Option (List α))(A:Option Addr)(c:Nat)(r:aG)(v:Value)(acc:List α):Prop where
 co:lO w W b (X0.setIfInBounds ix v)
 rb:lL W w.heap.size A c r
 own:dn W w.heap.size e k f v acc
 e:R=(bM rd r.length r).map (acc++ ·)
theorem qP {l:aG}(_:Int)(h:2<=l.length):∃id:Nat,id=256*l[0].toNat+l[1].toNat/\jv 2 l=some (id,l.drop 2):=by
 rcases l with _ | ⟨a,_ | ⟨b,r⟩⟩
 ·simp at h
 ·simp at h
 ·refine⟨_,rfl, ?_⟩
  unfold jv;rw[aE (by simp)];simp[qw];omega
theorem tC {l:aG}(h:l.length < 2):jv 2 l=none:=by unfold jv;rw[aj (by omega)]
theorem yK (k:Int)(w:au)(A:Option Addr)(c:Nat)(l:aG)(h:lL w w.heap.size A c l)(hl:l.length<=100000)(hk:k≠8/\k≠9):Calls prog 45 #[.int .i64 k,.slice A l.length c] w (rm w k l):=by
 obtain⟨W0,aV⟩:∃W0,w.alloc (.cells cT 29)=W0:=⟨_,rfl⟩;have HK:=zh (show ae w W0 []by rw[<-aV];exact ae.alloc _ _);have fw:=zh (show Row W0 w.heap.size 29 cT by rw[<-aV];exact Row.new _ _ _);have HH:=zh h
 by_cases h2:l.length < 2
 ·have d1:decide ((l.length:Int) < 2)=true:=bz (by omega)
  have HN:=zh (show dV k l=none by unfold dV;rw[tC h2];rfl);clear h h2 hl hk
  go_enter func45,ntmps45
  go_upto_region 1 with fail
  try rw[aV]
  clear aV
  go_wp2_with (refine wpList_store_row rfl (.tmp 4) (.tmp 13) 29 rfl w.heap.size cT cT fw.o (by kernel_rfl) rfl (by simp[Value.oneCell']) rfl rfl ?_;intro va ra ka;refine Hid.o ?_)
  refine zh ?_;have HE:=zh (And.intro ra (HK.o.trans ka (λy hy hlt=>by simp at hy;omega)));clear ra ka
  go_wp2_with fail
  refine bD (bV rfl rfl HE.o.1 rfl) rfl ⟨HE.o.2, ?_⟩;rw[HN.o];exact⟨cT,rfl,by simp[Value.oneCell'],rfl⟩
 ·have h2' :2<=l.length:=by omega
  have d1:decide ((l.length:Int) < 2)=false:=aZ (by omega);obtain⟨id,hid,cS⟩:=qP k h2';have iz:=zh cS;have b0:=eW l (k:=0) (by omega);have b1:=eW l (k:=1) (by omega);obtain⟨g,o,rfl,_,m0⟩:=HH.o.lies.at_ (k:=0) (by simp;omega);obtain⟨g',o',e',_,m1⟩:=HH.o.lies.at_ (k:=1) (by simp;omega);injection e' with e'
  injection e' with e1 e2
  subst e1 e2;rw[b0]at m0;rw[b1]at m1;have M0:=zh (λ(W' :au) (hW:ae w W' [])=>((hW.cell (p:=⟨g,o+0,none⟩) (by assumption) (by simp))).trans m0);have M1:=zh (λ(W' :au) (hW:ae w W' [])=>((hW.cell (p:=⟨g,o+1,none⟩) (by assumption) (by simp))).trans m1);clear b0 b1 m0 m1 h;have Eu:=zh (l[0].toNat_lt);have DY:=zh (l[1].toNat_lt)
  generalize l[0].toNat=k1 at*
  generalize l[1].toNat=k2 at*
  have s1:IntKind.i64.wrap (k1:Int)=(k1:Int):=by have:=Eu.o;exact IntWalk.i64_in _ ⟨by omega,by omega⟩
  have s2:IntKind.i64.wrap (k2:Int)=(k2:Int):=by have:=DY.o;exact IntWalk.i64_in _ ⟨by omega,by omega⟩
  have s3:IntKind.i64.wrap (256*(k1:Int))=256*(k1:Int):=by have:=Eu.o;exact IntWalk.i64_in _ ⟨by omega,by omega⟩
  have s4:IntKind.i64.wrap (256*(k1:Int)+(k2:Int))=(id:Int):=by have:=Eu.o;have:=DY.o;rw[IntWalk.i64_in _ ⟨by omega,by omega⟩];omega
  have HS:=zh (And.intro s1 (And.intro s2 (And.intro s3 s4)));clear s1 s2 s3 s4 hid cS
  go_enter func45,ntmps45
  go_upto_region 1 with fail
  try rw[aV]
  clear aV
  go_upto_region 3 with fail
  refine cE ax _ 12 (by kernel_rfl) rfl (by kernel_rfl) (λ_=>ae.refl _ _) (λ_ _ _ h k=>h.trans k (by simp)) (ae.drew _) ?_;simp only[dc,dg,dF,dK];refine lq (.slice (some ⟨g,o,none⟩) l.length c) ?_;simp only[af];apply ak
  ·intro W vals hW ag
   simp only[knows]at ag
   try simp only[ai]at ag
   clear ag;have m:0 < l.length:=by omega
   refine⟨?_⟩;simp only[fill];go_simp
   first | exact⟨ae.refl _ _,rfl⟩ | exact⟨ae.alloc _ _,rfl⟩
  simp only[af];refine ll 5 (.tmp 15) (⟨g,o,none⟩) (.int .u8 (k1:Int)) (λW hW=>M0.o W (HK.o.ah hW)) ?_;refine aK (.int .i64 (k1:Int)) (λ_=>by kernel_rfl) (λW _=>(show _=Result.ok (Next.value (.int .i64 (IntKind.i64.wrap (k1:Int)))) W by kernel_rfl).trans (by rw[HS.o.1])) ?_;refine aK (.int .i64 (256*(k1:Int))) (λ_=>by kernel_rfl) (λW _=>(show _=Result.ok (Next.value (.int .i64 (IntKind.i64.wrap (256*(k1:Int))))) W by kernel_rfl).trans (by rw[HS.o.2.2.1])) ?_;refine lq (.slice (some ⟨g,o,none⟩) l.length c) ?_;simp only[af];apply ak
  ·intro W vals hW ag
   simp only[knows]at ag
   try simp only[ai]at ag
   clear ag;have m:(1:Int) < (l.length:Int):=(by omega);refine⟨?_⟩;simp only[fill];go_simp
   first | exact⟨ae.refl _ _,rfl⟩ | exact⟨ae.alloc _ _,rfl⟩
  simp only[af];refine ll 5 (.tmp 20) (⟨g,o+1,none⟩) (.int .u8 (k2:Int)) (λW hW=>M1.o W (HK.o.ah hW)) ?_;refine aK (.int .i64 (k2:Int)) (λ_=>by kernel_rfl) (λW _=>(show _=Result.ok (Next.value (.int .i64 (IntKind.i64.wrap (k2:Int)))) W by kernel_rfl).trans (by rw[HS.o.2.1])) ?_;refine aK (.int .i64 (id:Int)) (λ_=>by kernel_rfl) (λW _=>(show _=Result.ok (Next.value (.int .i64 (IntKind.i64.wrap (256*(k1:Int)+(k2:Int))))) W by kernel_rfl).trans (by rw[HS.o.2.2.2])) ?_;simp only[af];refine lq (.agg (tH id)) ?_;simp only[af];refine bH (λv W' =>∃b,v= .pointer (some ⟨b,0,none⟩)/\Row W' b 29 cT/\W0.heap.size<=b) (λW vals hW ag φ' hφ=> ?_) ?_
  ·simp only[knows]at ag
   try simp only[ai]at ag
   (have hz:=hW.size;clear ag)
   refine⟨?_⟩;simp only[fill];go_simp;exact⟨ae.alloc _ _,hφ.o _ _ ⟨_,rfl,Row.new _ _ _,hz⟩⟩
  simp only[af];refine aq (λW vals hW ag=> ?_);simp only[aw]at ag
  try simp only[ai]at ag
  simp only[fill,Act.put,bo,bn,bh];obtain⟨W1,h0,h1,b,hv,hr,hb⟩:=ag;rw[hv];have HG:=zh (hr.keeps h1);have HO:=zh (show w.heap.size < b by have:=fw.o.lt;omega);have HW:=zh hW;clear h0 h1 hr hb hW hv M0 M1
  go_wp2_with (refine wpList_store_row rfl (.tmp 6) (.tmp 24) 29 rfl b (tH id) cT HG.o (by kernel_rfl) rfl (by simp[Value.oneCell']) rfl rfl ?_;intro va ra ka;refine Hid.o ?_)
  refine zh ?_;have ST:=zh (show lO w va b (tH id)from⟨(HK.o.ah HW.o).trans ka (λy hy hlt=>by have:=HO.o;simp at hy;omega),(fw.o.keeps HW.o).keep ka (by have:=HO.o;simp;omega),ra,HO.o,⟨rfl,by simp[Value.oneCell']⟩⟩);clear ra ka HG HO HW HS HK fw Eu DY
  go_upto_region 4 with fail
  obtain⟨A2,zr⟩:∃A2,(if c=2 then some ⟨g,o,none⟩else(some (⟨g,o,none⟩:Addr)).map (·.add 2))=A2:=⟨_,rfl⟩;have zF:=zh (show lL va w.heap.size A2 (c - 2) (l.drop 2)from by rw[<-zr];exact(HH.o.keeps ST.o.k).drop h2');refine cV ?_;refine aA (.slice (some ⟨g,o,none⟩) l.length c) rfl (by kernel_rfl) ?_;refine aA (.slice A2 (l.length - 2) (c - 2)) rfl (by rw[eU (x:= .tmp 25) (lo:= .const (.int .i64 2)) (a:=some ⟨g,o,none⟩) (len:=l.length) (cap:=c) (l:=2) (kl:= .i64) rfl (by kernel_rfl) (by kernel_rfl) h2',zr]) ?_;refine aA (.slice A2 (l.length - 2) (c - 2)) rfl (by kernel_rfl) ?_;simp only[Act.put,bo,bn,bh];have pG:(k==8)=false:=by simpa using hk.1
  have kD:(k==9)=false:=by simpa using hk.2
  have wJ:=zh (show dV k l=(bM cQ (l.drop 2).length (l.drop 2)).bind λaz=>some {bN with id:=(id:Int),fs:=az}from by unfold dV;rw[iz.o,di,aj hk.1,aj hk.2]);have og:=zh (show(l.drop 2).length=l.length - 2 from dQ);obtain⟨l2,hl2⟩:∃l2,l.drop 2=l2:=⟨_,rfl⟩;rw[hl2]at wJ og zF;rw[<-og.o];obtain⟨R,hR⟩:∃R,bM cQ l2.length l2=R:=⟨_,rfl⟩;have FO:=zh (show R=(bM cQ l2.length l2).map ([]++ ·)by rw[hR];cases R <;> rfl);rw[hR]at wJ;have oI:=zh (show l2.length<=100000 by have:=og.o;omega);clear hR hl2 hk h2 h2' d1 iz og zr HH hl
  go_wp2_with fail
  go_loopw [1] (λsb wr=>∃(A:Option Addr) (c:Nat) (r:aG) (v:Value) (acc:List aG),sb= .slice A r.length c/\Hid (FN w wr b (tH id) 23 9 1 fC cQ R A c r v acc)/\acc.length+r.length<=l2.length) (λsb _=>sliceLen sb)
  case atStart=>exact⟨A2,c - 2,l2,.slice none 0 0, [],rfl,zh ⟨ST.o,zF.o,dn.nil _ _ _ _ _,FO.o⟩,by simp⟩
  case round=>
   obtain⟨A1,c1,r,v,acc,rfl,HT,hle⟩:=hrel
   by_cases hr:r= []
   ·subst hr
    have hgt:decide ((([]:aG).length:Int) > 0)=false:=aZ (by simp);obtain⟨Av,cv,rfl⟩:=dn.slice HT.o.own;have HN:=zh (show dV k l=some {bN with id:=(id:Int),fs:=acc}by
     have h1:R=some (acc++ []):=HT.o.e;rw[wJ.o,h1,dJ];rfl)
    have HP:=zh (show∀e w',e= .returned (.tuple #[.agg ((tH id).setIfInBounds 23 (.slice Av acc.length cv)),.bool true])->ae w w' []->bw w' 9 1 fC Av acc->rm w k l e w' from λe w' h1 h2 h3=>⟨h2,by rw[HN.o];exact⟨.slice none 0 0,.slice none 0 0,.slice Av acc.length cv,h1,⟨⟨none,0,rfl,bw.nil _ _ _ _ _⟩,⟨none,0,rfl,bw.nil _ _ _ _ _⟩,⟨Av,cv,rfl,h3⟩⟩⟩⟩);have ML:=zh (dn.at_ HT.o.own mE);have jc:=zh HT.o.co;clear HN HT wJ;obtain⟨Y,hY⟩:∃Y,(tH id).setIfInBounds 23 (.slice Av acc.length cv)=Y:=⟨_,rfl⟩;rw[hY]at jc HP;clear hY
    go_wp2_with (first | (refine bf (by kernel_rfl) rfl rfl jc.o.g underlying29 rfl (by rw[jc.o.x.z];kernel_rfl) ?_) | (refine wpList_store_row rfl (.tmp 4) (.tmp 83) 29 rfl w.heap.size Y cT jc.o.s (by rw[jc.o.x.z];kernel_rfl) (by rw[jc.o.x.z];rfl) jc.o.x.one rfl rfl ?_;intro va ra ka;refine Hid.o ?_))
    refine zh ?_;have HE:=zh (And.intro ra (And.intro (jc.o.k.trans ka (λy hy hlt=>by simp at hy;omega)) (ML.o.box ka jc.o.s (by decide))));have uB:=zh jc.o.x;clear ra ka
    go_wp2_with fail
    refine bD (bV rfl rfl HE.o.1 uB.o.z) rfl ?_;have hh:=HP.o _ _ rfl HE.o.2.1 HE.o.2.2;exact hh
   ·have hpos:0 < r.length:=List.length_pos_iff.2 hr
    have hgt:decide ((r.length:Int) > 0)=true:=bz (by omega)
    go_wp2_with fail
    refine(mf _ w.heap.size A1 c1 r HT.o.rb).mono ?_;rintro e w1 ⟨hk1,hp⟩
    cases hX:cQ r with
    | none=>
     rw[hX]at hp;subst hp;have HN:=zh (show dV k l=none by rw[wJ.o,jH hr hX HT.o.e];rfl);have jc:=zh (HT.o.co.keeps hk1);clear hX hk1 HT;obtain⟨Y,hY⟩:∃Y,(tH id).setIfInBounds 23 v=Y:=⟨_,rfl⟩;rw[hY]at jc;clear hY
     go_wp2_with (first | (refine bf (by kernel_rfl) rfl rfl jc.o.g underlying29 rfl (by rw[jc.o.x.z];kernel_rfl) ?_) | (refine wpList_store_row rfl (.tmp 4) (.tmp 60) 29 rfl w.heap.size Y cT jc.o.s (by rw[jc.o.x.z];kernel_rfl) (by rw[jc.o.x.z];rfl) jc.o.x.one rfl rfl ?_;intro va ra ka;refine Hid.o ?_))
     refine zh ?_;have HE:=zh (And.intro ra (jc.o.k.trans ka (λy hy hlt=>by simp at hy;omega)));have uB:=zh jc.o.x;clear ra ka
     go_wp2_with fail
     refine bD (bV rfl rfl HE.o.1 uB.o.z) rfl ⟨HE.o.2, ?_⟩;rw[HN.o];exact⟨Y,uB.o.z,uB.o.one,rfl⟩
    | some sr=>
     obtain⟨s,r'⟩:=sr;rw[hX]at hp;obtain⟨A3,c3,rfl,Dv⟩:=hp;obtain⟨Av,cv,rfl⟩:=dn.slice HT.o.own;have HG:=zh (mW (λl a r h=>mV h) hr hX HT.o.e);have hsl:=mV hX;have je:=zh (HT.o.co.keeps hk1);have IG:=zh (HT.o.own.keeps hk1);have Cg:=zh Dv;clear hX hk1 HT Dv;obtain⟨S,hS⟩:∃S:ByteArray,(⟨s.toArray⟩:ByteArray)=S:=⟨_,rfl⟩;have HS:=zh hS;rw[hS];clear hS;obtain⟨X1,FA⟩:∃X1,(tH id).setIfInBounds 23 (.slice Av acc.length cv)=X1:=⟨_,rfl⟩;have Mt:=zh FA;have g23:=(je.o.g.cell 23).trans (show _=some (Value.slice Av acc.length cv)from rfl);have f23:=je.o.g.frozen 23;rw[FA]at je;clear FA
     go_upto_region 14 with fail
     refine cV ?_;refine aA (.pointer (some ⟨b,23,none⟩)) rfl (by kernel_rfl) ?_;refine bO 27 (.tmp 77) ⟨b,23,none⟩ (.slice Av acc.length cv) rfl rfl (by kernel_rfl) (λ_=>by kernel_rfl) g23 ?_;simp only[Act.put,bo,bn,bh];clear g23 f23;obtain⟨Wb,fg⟩:∃Wb,w1.alloc (.cells #[.string S] 9)=Wb:=⟨_,rfl⟩;have kb:ae w1 Wb []:=by rw[<-fg];exact ae.alloc _ _
     have Er:=zh (show cG Wb Wb.heap.size (some ⟨w1.heap.size,0,none⟩) ([s].flatMap fC)from fJ (cs:= #[.string S]) (by rw[<-fg];exact Row.new _ _ _) (by rw[<-HS.o];rfl));have HA:=zh (And.intro (IG.o.keeps kb) (And.intro (je.o.keeps kb) (Cg.o.keeps kb)));have hbs:w.heap.size<=Wb.heap.size:=HA.o.2.1.k.size;have K3:=zh (show acc.length<=100000 by have:=oI.o;omega);clear kb je IG Cg
     go_wp2_with (at_builtin;refine Hid.o ?_)
     refine zh ?_;refine eG zu mE rfl (.tmp 78) (.tmp 80) rfl w.heap.size (.slice Av acc.length cv) (some ⟨w1.heap.size,0,none⟩) 1 1 acc [s] rfl rfl rfl HA.o.1 Er.o (by have:=K3.o;simp;omega) hbs ?_;intro A7 c7 w7 l7 qq uq mq kf qu;have iV:∀g∈(Value.slice Av acc.length cv).ownBlock.toList,w.heap.size<=g/\∃cs,Row Wb g 9 cs:=HA.o.1.rows;have Ox:lO w w7 b X1:=⟨HA.o.2.1.k.trans kf (λy hy hlt=>absurd (iV y hy).1 (by omega)),HA.o.2.1.s.keep kf (λhm=>by
      obtain⟨_,cs,hr⟩:=iV _ hm;exact iJ HA.o.2.1.s hr (by decide) rfl),HA.o.2.1.g.keep kf (λhm=>by
      obtain⟨_,cs,hr⟩:=iV _ hm;exact iJ HA.o.2.1.g hr (by decide) rfl),HA.o.2.1.o,HA.o.2.1.x⟩
     have H7:=zh (And.intro Ox (And.intro (HA.o.2.2.keep kf (λy hy=>(iV y hy).1)) mq));have Es:=zh qq.o;clear mq kf qu iV fg qq hbs Ox HA;refine aA (.pointer (some ⟨b,23,none⟩)) rfl (by kernel_rfl) ?_;refine dY rfl 27 (.tmp 82) (.tmp 81) b 23 (.slice A7 l7.length c7) rfl (by kernel_rfl) (by kernel_rfl) rfl rfl (by kernel_rfl) H7.o.1.g (by rw[H7.o.1.x.z];decide) ?_;intro wz rz kz;have HZ:=zh (show FN w wz b (tH id) 23 9 1 fC cQ R A3 c3 r' (.slice A7 l7.length c7) l7 from⟨by
      have h:=H7.o.1.to kz rz (H7.o.1.x.set 23 rfl);rw[<-Mt.o]at h;exact h,H7.o.2.1.keep kz (by have:=H7.o.1.o;simp;omega),H7.o.2.2.keep kz (λx hx=> .inr λcs hr=>iJ H7.o.1.g hr (by decide) (by simpa using (List.mem_singleton.1 hx).symm)),by rw[Es.o];exact HG.o⟩)
     have Uw:l7.length=acc.length+1:=by rw[Es.o];simp
     clear rz kz H7 Es Er;simp only[Act.put,bo,bn,bh]
     go_wp2_with fail
     exact⟨⟨A3,c3,r',.slice A7 l7.length c7,l7,rfl,HZ,by omega⟩,by simp[sliceLen];omega⟩

def dP (b:Nat)(w w' :au):Prop:=∀X,Row w b 29 X->Row w' b 29 X
theorem dP.ok (b:Nat):kE (dP b):=⟨λh _ hr=>hr.keeps h,λh k X hr=>k X (h X hr)⟩
def pT (b:Nat)(w w' :au):Prop:=ae w w' [b]
theorem pT.ok (b:Nat):kE (pT b):=⟨λh=>h.weaken (by simp),λh k=>ae.trans h k (λ_ h _=>h)⟩
def EF (R0 R1:au->au->Prop):Nat->au->au->Prop
 | 0=>R0
 | _=>R1
theorem jL.two {C R0 R1:au->au->Prop}{Ws:List Iv}(hC:kE C)(h0:kE R0)(h1:kE R1):jL Ws C (EF R0 R1):=by
 have h:∀i,kE (EF R0 R1 i):=λi=>by
  cases i
  ·exact h0
  ·exact h1
 exact⟨⟨λ_=>hC.keeps (ae.refl _ _),λ_ _ _ h k=>hC.trans h k,λi _=>(h i).keeps (ae.refl _ _),λi _ _ _ a k=>(h i).trans a k⟩,λk=>hC.keeps k,λ{i _ _} k=>(h i).keeps k⟩
/-- What was there stays, and so does the box of results. -/
structure KX (w W W' :au):Prop where
 old:dU w W W'
 box:dP w.heap.size W W'
theorem KX.ok (w:au):kE (KX w):=⟨λh=>⟨(dU.ok w).keeps h,(dP.ok _).keeps h⟩,λh k=>⟨(dU.ok w).trans h.old k.old,(dP.ok _).trans h.box k.box⟩⟩
theorem uk {P:Program}{R:au->au->Prop}{ops:Array Oper}{op:Oper}{a:Act}{w:au}{φ' :Value->au->Prop}(hw:Region.wanted op (yielded ops a.tmps)=true)(t:TypeId)(x y:Operand)(b i:Nat)(v:Value){T:TypeId}{X:Array Value}(ho:op.op= .store t x y)(hx:a.eval x= .pointer (some ⟨b,i,none⟩))(hy:a.eval y=v)(hv:v.cells= #[v])(h1:v.oneCell' =true)(hi:(P.info? t).map (·.size)=some 1)(hr:Row w b T X)(hb:i < X.size)
  (h:∀w',Row w' b T (X.setIfInBounds i v)->ae w w' [b]->R w w' /\φ' undef w'):fH P R ops a op φ' w:=by
 refine⟨?_⟩;rw[aE hw];have hrun:=ji (P:=P) w b i t v (hr.there (by rw[hv];show i+1<=_;omega)) (by rw[hv];exact hi) (by rw[hv];simp[h1]);have h2:=hr.setCells v.cells.toList i;rw[hv]at hrun h2;unfold execOp;simp only[ho,hx,hy,fo,hrun,fk,gq];exact h _ h2 (ae.setCells _ _ _)
/-- The bytes that may be read were there at first. -/
theorem lL.first {w W:au}{A:Option Addr}{c:Nat}{l:aG}(h:lL W w.heap.size A c l)(hk:ae w W []):lL w w.heap.size A c l:=
 ⟨h.below.cells λp hp=>(hk.cell hp (by simp)).symm,bE _,h.le,h.cm⟩
theorem yL (w:au)(A:Option Addr)(c:Nat)(l:aG)(h:lL w w.heap.size A c l)(hl:l.length<=100000):Calls prog 45 #[.int .i64 9,.slice A l.length c] w (rm w 9 l):=by
 obtain⟨W0,aV⟩:∃W0,w.alloc (.cells cT 29)=W0:=⟨_,rfl⟩;have HK:=zh (show ae w W0 []by rw[<-aV];exact ae.alloc _ _);have fw:=zh (show Row W0 w.heap.size 29 cT by rw[<-aV];exact Row.new _ _ _);have HH:=zh h
 by_cases h2:l.length < 2
 ·have d1:decide ((l.length:Int) < 2)=true:=bz (by omega)
  have HN:=zh (show dV 9 l=none by unfold dV;rw[tC h2];rfl);clear h h2 hl
  go_enter func45,ntmps45
  go_upto_region 1 with fail
  try rw[aV]
  clear aV
  go_wp2_with (refine wpList_store_row rfl (.tmp 4) (.tmp 13) 29 rfl w.heap.size cT cT fw.o (by kernel_rfl) rfl (by simp[Value.oneCell']) rfl rfl ?_;intro va ra ka;refine Hid.o ?_)
  refine zh ?_;have HE:=zh (And.intro ra (HK.o.trans ka (λy hy hlt=>by simp at hy;omega)));clear ra ka
  go_wp2_with fail
  refine bD (bV rfl rfl HE.o.1 rfl) rfl ⟨HE.o.2, ?_⟩;rw[HN.o];exact⟨cT,rfl,by simp[Value.oneCell'],rfl⟩
 ·have h2' :2<=l.length:=by omega
  have d1:decide ((l.length:Int) < 2)=false:=aZ (by omega);obtain⟨id,hid,cS⟩:=qP 9 h2';have iz:=zh cS;have b0:=eW l (k:=0) (by omega);have b1:=eW l (k:=1) (by omega);obtain⟨g,o,rfl,_,m0⟩:=HH.o.lies.at_ (k:=0) (by simp;omega);obtain⟨g',o',e',_,m1⟩:=HH.o.lies.at_ (k:=1) (by simp;omega);injection e' with e'
  injection e' with e1 e2
  subst e1 e2;rw[b0]at m0;rw[b1]at m1;have M0:=zh (λ(W' :au) (hW:ae w W' [])=>((hW.cell (p:=⟨g,o+0,none⟩) (by assumption) (by simp))).trans m0);have M1:=zh (λ(W' :au) (hW:ae w W' [])=>((hW.cell (p:=⟨g,o+1,none⟩) (by assumption) (by simp))).trans m1);clear b0 b1 m0 m1 h;have Eu:=zh (l[0].toNat_lt);have DY:=zh (l[1].toNat_lt)
  generalize l[0].toNat=k1 at*
  generalize l[1].toNat=k2 at*
  have s1:IntKind.i64.wrap (k1:Int)=(k1:Int):=by have:=Eu.o;exact IntWalk.i64_in _ ⟨by omega,by omega⟩
  have s2:IntKind.i64.wrap (k2:Int)=(k2:Int):=by have:=DY.o;exact IntWalk.i64_in _ ⟨by omega,by omega⟩
  have s3:IntKind.i64.wrap (256*(k1:Int))=256*(k1:Int):=by have:=Eu.o;exact IntWalk.i64_in _ ⟨by omega,by omega⟩
  have s4:IntKind.i64.wrap (256*(k1:Int)+(k2:Int))=(id:Int):=by have:=Eu.o;have:=DY.o;rw[IntWalk.i64_in _ ⟨by omega,by omega⟩];omega
  have HS:=zh (And.intro s1 (And.intro s2 (And.intro s3 s4)));clear s1 s2 s3 s4 hid cS
  go_enter func45,ntmps45
  go_upto_region 1 with fail
  try rw[aV]
  clear aV
  go_upto_region 3 with fail
  refine cE ax _ 12 (by kernel_rfl) rfl (by kernel_rfl) (λ_=>ae.refl _ _) (λ_ _ _ h k=>h.trans k (by simp)) (ae.drew _) ?_;simp only[dc,dg,dF,dK];refine lq (.slice (some ⟨g,o,none⟩) l.length c) ?_;simp only[af];apply ak
  ·intro W vals hW ag
   simp only[knows]at ag
   try simp only[ai]at ag
   clear ag;have m:0 < l.length:=by omega
   refine⟨?_⟩;simp only[fill];go_simp
   first | exact⟨ae.refl _ _,rfl⟩ | exact⟨ae.alloc _ _,rfl⟩
  simp only[af];refine ll 5 (.tmp 15) (⟨g,o,none⟩) (.int .u8 (k1:Int)) (λW hW=>M0.o W (HK.o.ah hW)) ?_;refine aK (.int .i64 (k1:Int)) (λ_=>by kernel_rfl) (λW _=>(show _=Result.ok (Next.value (.int .i64 (IntKind.i64.wrap (k1:Int)))) W by kernel_rfl).trans (by rw[HS.o.1])) ?_;refine aK (.int .i64 (256*(k1:Int))) (λ_=>by kernel_rfl) (λW _=>(show _=Result.ok (Next.value (.int .i64 (IntKind.i64.wrap (256*(k1:Int))))) W by kernel_rfl).trans (by rw[HS.o.2.2.1])) ?_;refine lq (.slice (some ⟨g,o,none⟩) l.length c) ?_;simp only[af];apply ak
  ·intro W vals hW ag
   simp only[knows]at ag
   try simp only[ai]at ag
   clear ag;have m:(1:Int) < (l.length:Int):=(by omega);refine⟨?_⟩;simp only[fill];go_simp
   first | exact⟨ae.refl _ _,rfl⟩ | exact⟨ae.alloc _ _,rfl⟩
  simp only[af];refine ll 5 (.tmp 20) (⟨g,o+1,none⟩) (.int .u8 (k2:Int)) (λW hW=>M1.o W (HK.o.ah hW)) ?_;refine aK (.int .i64 (k2:Int)) (λ_=>by kernel_rfl) (λW _=>(show _=Result.ok (Next.value (.int .i64 (IntKind.i64.wrap (k2:Int)))) W by kernel_rfl).trans (by rw[HS.o.2.1])) ?_;refine aK (.int .i64 (id:Int)) (λ_=>by kernel_rfl) (λW _=>(show _=Result.ok (Next.value (.int .i64 (IntKind.i64.wrap (256*(k1:Int)+(k2:Int))))) W by kernel_rfl).trans (by rw[HS.o.2.2.2])) ?_;simp only[af];refine lq (.agg (tH id)) ?_;simp only[af];refine bH (λv W' =>∃b,v= .pointer (some ⟨b,0,none⟩)/\Row W' b 29 cT/\W0.heap.size<=b) (λW vals hW ag φ' hφ=> ?_) ?_
  ·simp only[knows]at ag
   try simp only[ai]at ag
   (have hz:=hW.size;clear ag)
   refine⟨?_⟩;simp only[fill];go_simp;exact⟨ae.alloc _ _,hφ.o _ _ ⟨_,rfl,Row.new _ _ _,hz⟩⟩
  simp only[af];refine aq (λW vals hW ag=> ?_);simp only[aw]at ag
  try simp only[ai]at ag
  simp only[fill,Act.put,bo,bn,bh];obtain⟨W1,h0,h1,b,hv,hr,hb⟩:=ag;rw[hv];have HG:=zh (hr.keeps h1);have HO:=zh (show w.heap.size < b by have:=fw.o.lt;omega);have HW:=zh hW;clear h0 h1 hr hb hW hv M0 M1
  go_wp2_with (refine wpList_store_row rfl (.tmp 6) (.tmp 24) 29 rfl b (tH id) cT HG.o (by kernel_rfl) rfl (by simp[Value.oneCell']) rfl rfl ?_;intro va ra ka;refine Hid.o ?_)
  refine zh ?_;have ST:=zh (show lO w va b (tH id)from⟨(HK.o.ah HW.o).trans ka (λy hy hlt=>by have:=HO.o;simp at hy;omega),(fw.o.keeps HW.o).keep ka (by have:=HO.o;simp;omega),ra,HO.o,⟨rfl,by simp[Value.oneCell']⟩⟩);clear ra ka HG HO HW HS HK fw Eu DY
  go_upto_region 4 with fail
  obtain⟨A2,zr⟩:∃A2,(if c=2 then some ⟨g,o,none⟩else(some (⟨g,o,none⟩:Addr)).map (·.add 2))=A2:=⟨_,rfl⟩;have zF:=zh (show lL va w.heap.size A2 (c - 2) (l.drop 2)from by rw[<-zr];exact(HH.o.keeps ST.o.k).drop h2');refine cV ?_;refine aA (.slice (some ⟨g,o,none⟩) l.length c) rfl (by kernel_rfl) ?_;refine aA (.slice A2 (l.length - 2) (c - 2)) rfl (by rw[eU (x:= .tmp 25) (lo:= .const (.int .i64 2)) (a:=some ⟨g,o,none⟩) (len:=l.length) (cap:=c) (l:=2) (kl:= .i64) rfl (by kernel_rfl) (by kernel_rfl) h2',zr]) ?_;refine aA (.slice A2 (l.length - 2) (c - 2)) rfl (by kernel_rfl) ?_;simp only[Act.put,bo,bn,bh];have wJ:=zh (show dV 9 l=(bM dC (l.drop 2).length (l.drop 2)).bind λaz=>some {bN with id:=(id:Int),aF:=az}from by unfold dV;rw[iz.o,di,aj (by decide),aE rfl]);have og:=zh (show(l.drop 2).length=l.length - 2 from dQ);obtain⟨l2,hl2⟩:∃l2,l.drop 2=l2:=⟨_,rfl⟩;rw[hl2]at wJ og zF;rw[<-og.o];obtain⟨R,hR⟩:∃R,bM dC l2.length l2=R:=⟨_,rfl⟩;have FO:=zh (show R=(bM dC l2.length l2).map ([]++ ·)by rw[hR];cases R <;> rfl);rw[hR]at wJ;have oI:=zh (show l2.length<=100000 by have:=og.o;omega);clear hR hl2 h2 h2' d1 iz og zr HH hl
  go_wp2_with fail
  go_loopw [1] (λsb wr=>∃(A:Option Addr) (c:Nat) (r:aG) (v:Value) (acc:List Int),sb= .slice A r.length c/\Hid (FN w wr b (tH id) 22 3 1 jJ dC R A c r v acc)/\acc.length+r.length<=l2.length) (λsb _=>sliceLen sb)
  case atStart=>exact⟨A2,c - 2,l2,.slice none 0 0, [],rfl,zh ⟨ST.o,zF.o,dn.nil _ _ _ _ _,FO.o⟩,by simp⟩
  case round=>
   obtain⟨A1,c1,r,v,acc,rfl,HT,hle⟩:=hrel
   by_cases hr:r= []
   ·subst hr
    have hgt:decide ((([]:aG).length:Int) > 0)=false:=aZ (by simp);obtain⟨Av,cv,rfl⟩:=dn.slice HT.o.own;have HN:=zh (show dV 9 l=some {bN with id:=(id:Int),aF:=acc}by
     have h1:R=some (acc++ []):=HT.o.e;rw[wJ.o,h1,dJ];rfl)
    have HP:=zh (show∀e w',e= .returned (.tuple #[.agg ((tH id).setIfInBounds 22 (.slice Av acc.length cv)),.bool true])->ae w w' []->bw w' 3 1 jJ Av acc->rm w 9 l e w' from λe w' h1 h2 h3=>⟨h2,by rw[HN.o];exact⟨.slice none 0 0,.slice Av acc.length cv,.slice none 0 0,h1,⟨⟨none,0,rfl,bw.nil _ _ _ _ _⟩,⟨Av,cv,rfl,h3⟩,⟨none,0,rfl,bw.nil _ _ _ _ _⟩⟩⟩⟩);have ML:=zh (dn.at_ HT.o.own p_);have jc:=zh HT.o.co;clear HN HT wJ;obtain⟨Y,hY⟩:∃Y,(tH id).setIfInBounds 22 (.slice Av acc.length cv)=Y:=⟨_,rfl⟩;rw[hY]at jc HP;clear hY
    go_wp2_with (first | (refine bf (by kernel_rfl) rfl rfl jc.o.g underlying29 rfl (by rw[jc.o.x.z];kernel_rfl) ?_) | (refine wpList_store_row rfl (.tmp 4) (.tmp 83) 29 rfl w.heap.size Y cT jc.o.s (by rw[jc.o.x.z];kernel_rfl) (by rw[jc.o.x.z];rfl) jc.o.x.one rfl rfl ?_;intro va ra ka;refine Hid.o ?_))
    refine zh ?_;have HE:=zh (And.intro ra (And.intro (jc.o.k.trans ka (λy hy hlt=>by simp at hy;omega)) (ML.o.box ka jc.o.s (by decide))));have uB:=zh jc.o.x;clear ra ka
    go_wp2_with fail
    refine bD (bV rfl rfl HE.o.1 uB.o.z) rfl ?_;have hh:=HP.o _ _ rfl HE.o.2.1 HE.o.2.2;exact hh
   ·have hpos:0 < r.length:=List.length_pos_iff.2 hr
    have hgt:decide ((r.length:Int) > 0)=true:=bz (by omega);obtain⟨y,r',rfl⟩:∃y r',r=y::r' :=by
     rcases r with _ | ⟨y,r'⟩
     ·exact absurd rfl hr
     ·exact⟨y,r',rfl⟩
    have hX:dC (y::r')=some ((y.toNat:Int),r'):=by
     unfold dC jv;rw[aE (by simp)];simp[qw]
    obtain⟨Av,cv,rfl⟩:=dn.slice HT.o.own;have HG:=zh (mW (λl a r h=>nM h) hr hX HT.o.e);obtain⟨X1,FA⟩:∃X1,(tH id).setIfInBounds 22 (.slice Av acc.length cv)=X1:=⟨_,rfl⟩;have Mt:=zh FA;have MV:=zh (show X1[22]? =some (Value.slice Av acc.length cv)from by rw[<-FA];rfl);have je:=zh HT.o.co;have IG:=zh HT.o.own;have Cg:=zh HT.o.rb;rw[FA]at je;clear FA HT hX;have Kr:=zh (Cg.o.first je.o.k);obtain⟨gb,ob,rfl,hgb,mb⟩:=Kr.o.below.at_ (k:=0) (by simp);have I8:=zh (show∀W,ae w W []->W.cell? ⟨gb,ob,none⟩=some (.int .u8 (y.toNat:Nat))from λW hW=>(hW.cell (p:=⟨gb,ob,none⟩) hgb (by simp)).trans mb);have OZ:=zh (show wrap64 (y.toNat:Int)=(y.toNat:Int)/\IntKind.i64.wrap (y.toNat:Int)=(y.toNat:Int)from by have:=y.toNat_lt;exact⟨by unfold wrap64;omega,IntWalk.i64_in _ ⟨by omega,by omega⟩⟩);obtain⟨A',hA'⟩:∃A',(if c1=1 then some ⟨gb,ob,none⟩else(some (⟨gb,ob,none⟩:Addr)).map (·.add 1))=A' :=⟨_,rfl⟩;have I9 :=zh hA';have Sj:=zh (show lL w w.heap.size A' (c1 - 1) r' from by rw[<-hA'];exact Kr.o.drop (k:=1) (by simp));have K3:=zh (show acc.length<=100000 by have:=oI.o;omega);clear mb hA' Cg hpos hr
    go_upto_region 7 with fail
    have LH:jL [(⟨0, [], [7,10,11,12], [0,1,2,3,4,5,6,7], [0,1,2,3,4,5,6,7]⟩:Iv),(⟨1, [], [11,12], [0,1,2,3,4,5,6,7,10,11], [0,1,2,3,4,5,6,7,10,11]⟩:Iv),(⟨1, [0,1,2,3,4,5,6,7,10,11], [], [11], []⟩:Iv),(⟨0, [0,1,2,3,4,5,6,7], [], [7], []⟩:Iv)] (KX w) (EF (pT b) (dP b)):= .two (KX.ok _) (pT.ok b) (dP.ok b);refine iQ [(⟨0, [], [7,10,11,12], [0,1,2,3,4,5,6,7], [0,1,2,3,4,5,6,7]⟩:Iv),(⟨1, [], [11,12], [0,1,2,3,4,5,6,7,10,11], [0,1,2,3,4,5,6,7,10,11]⟩:Iv),(⟨1, [0,1,2,3,4,5,6,7,10,11], [], [11], []⟩:Iv),(⟨0, [0,1,2,3,4,5,6,7], [], [7], []⟩:Iv)] (KX w) (EF (pT b) (dP b)) _ 13 LH (by kernel_rfl) rfl (by kernel_rfl) ?_;simp only[dc,dg,dF,dK];apply aY 0 _ rfl
    ·intro W vals hW ag
     clear ag;have hC:=hW.c;refine⟨?_⟩;simp only[fill];go_simp
     first | exact⟨LH.bp (ae.refl _ _),rfl⟩ | exact⟨LH.bp (ae.alloc _ _),rfl⟩
    simp only[af];apply aY 1 _ rfl
    ·intro W vals hW ag
     have hC:=hW.c;simp only[cy]at ag
     try simp only[ai]at ag
     have hrow:=(show dP b wr W from hW.a (⟨1, [], [11,12], [0,1,2,3,4,5,6,7,10,11], [0,1,2,3,4,5,6,7,10,11]⟩:Iv) (by simp) rfl (by simp)) X1 je.o.g;have m:=(hrow.cell 22).trans MV.o;clear ag;refine⟨?_⟩;simp only[fill];go_simp
     first | exact⟨LH.bp (ae.refl _ _),rfl⟩ | exact⟨LH.bp (ae.alloc _ _),rfl⟩
    simp only[af];apply aY 2 _ rfl
    ·intro W vals hW ag
     clear ag;have hC:=hW.c;refine⟨?_⟩;simp only[fill];go_simp
     first | exact⟨LH.bp (ae.refl _ _),rfl⟩ | exact⟨LH.bp (ae.alloc _ _),rfl⟩
    simp only[af];apply aY 3 _ rfl
    ·intro W vals hW ag
     clear ag;have hC:=hW.c;refine⟨?_⟩;simp only[fill];go_simp
     first | exact⟨LH.bp (ae.refl _ _),rfl⟩ | exact⟨LH.bp (ae.alloc _ _),rfl⟩
    simp only[af];apply aY 4 _ rfl
    ·intro W vals hW ag
     have hC:=hW.c;simp only[cy]at ag
     try simp only[ai]at ag
     have m:=I8.o W (hC.old je.o.k);clear ag;refine⟨?_⟩;simp only[fill];go_simp
     first | exact⟨LH.bp (ae.refl _ _),rfl⟩ | exact⟨LH.bp (ae.alloc _ _),rfl⟩
    simp only[af];apply aY 5 _ rfl
    ·intro W vals hW ag
     have hC:=hW.c;simp only[cy]at ag
     try simp only[ai]at ag
     have m:=OZ.o.1;have m2:=OZ.o.2;clear ag;refine⟨?_⟩;simp only[fill];go_simp
     first | exact⟨LH.bp (ae.refl _ _),rfl⟩ | exact⟨LH.bp (ae.alloc _ _),rfl⟩
    simp only[af];refine db 6 (λv W' =>∃b',v= .slice (some ⟨b',0,none⟩) 1 1/\Row W' b' 3 #[.int .i64 (y.toNat:Nat)]) rfl (λW vals hW ag φ' hφ=> ?_) ?_
    ·have hC:=hW.c
     simp only[cy]at ag
     try simp only[ai]at ag
     clear ag;refine⟨?_⟩;simp only[fill];go_simp;exact⟨LH.bp (ae.alloc _ _),hφ.o _ _ ⟨_,rfl,Row.new _ _ _⟩⟩
    simp only[af];refine db 7 (λu W' =>∃A c,u= .slice A (acc++ [((y.toNat:Nat):Int)]).length c/\dn W' w.heap.size 3 1 jJ (.slice A (acc++ [((y.toNat:Nat):Int)]).length c) (acc++ [((y.toNat:Nat):Int)])) rfl (λW vals hW ag φ' hφ=> ?_) ?_
    ·have hC:=hW.c
     simp only[cy]at ag
     try simp only[ai]at ag
     obtain⟨Wb,ab,b1,b',hv',hr'⟩:=ag (by decide);have rB:=(show dP b wr Wb from ab.a (⟨1, [], [11,12], [0,1,2,3,4,5,6,7,10,11], [0,1,2,3,4,5,6,7,10,11]⟩:Iv) (by simp) rfl (by simp) (by simp)) X1 je.o.g;have G4:=(show dP b wr W from hW.a (⟨1, [], [11,12], [0,1,2,3,4,5,6,7,10,11], [0,1,2,3,4,5,6,7,10,11]⟩:Iv) (by simp) rfl (by simp)) X1 je.o.g;have ho:=IG.o.keep (show ae wr W [b]from hW.a (⟨0, [], [7,10,11,12], [0,1,2,3,4,5,6,7], [0,1,2,3,4,5,6,7]⟩:Iv) (by simp) rfl (by simp)) (λx hx=> .inr λcs hr=>iJ je.o.g hr (by decide) (by simpa using (List.mem_singleton.1 hx).symm));have hr2:=hr'.keep (show ae Wb W [b]from b1.a (⟨0, [], [7,10,11,12], [0,1,2,3,4,5,6,7], [0,1,2,3,4,5,6,7]⟩:Iv) (by simp) (by simp) (by simp)) (by simpa using iJ hr' rB (by decide));have hown:∀g∈(Value.slice Av acc.length cv).ownBlock.toList,w.heap.size<=g/\∃cs,Row W g 3 cs:=ho.rows;refine qF BF p_ rfl (.tmp 33) (.tmp 38) rfl w.heap.size (.slice Av acc.length cv) (some ⟨b',0,none⟩) 1 1 acc [((y.toNat:Nat):Int)] rfl (by kernel_rfl) ((show _=vals 38 by kernel_rfl).trans hv') ho (fJ hr2 rfl) (by have:=K3.o;simp;omega) (hC.old je.o.k).size (λA' c' w' ho' hk' _=>⟨⟨⟨λh=>h.trans hk' (λy hy hlt=>absurd (hown y hy).1 (by omega)),λX hr=>hr.keep hk' (λhm=>by
      obtain⟨_,cs,LJ⟩:=hown _ hm;exact iJ (hC.box _ je.o.s) LJ (by decide) rfl)⟩,λx hx h1 h2=> ?_⟩,hφ.o _ _ ⟨A',c',rfl,ho'⟩⟩)
     simp only[tU,tT,or_false]at hx
     rcases hx with rfl | rfl | rfl | rfl
     ·exact absurd (by simp) h2
     ·exact λX hr=>hr.keep hk' (λhm=>by
       obtain⟨_,cs,LJ⟩:=hown _ hm;exact iJ G4 LJ (by decide) rfl)
     ·exact absurd (by simp) h1
     ·exact absurd (by simp) h1
    simp only[af];apply aY 8 _ rfl
    ·intro W vals hW ag
     clear ag;have hC:=hW.c;refine⟨?_⟩;simp only[fill];go_simp
     first | exact⟨LH.bp (ae.refl _ _),rfl⟩ | exact⟨LH.bp (ae.alloc _ _),rfl⟩
    simp only[af];refine aY 9 (.slice A' r'.length (c1 - 1)) rfl (λW vals hW ag=>⟨?_⟩) ?_
    ·rw[aE (by kernel_rfl)]
     rw[eU (x:= .tmp 40) (lo:= .const (.int .i64 1)) (a:=some ⟨gb,ob,none⟩) (len:=(y::r').length) (cap:=c1) (l:=1) (kl:= .i64) rfl (by kernel_rfl) (by kernel_rfl) (iG _),I9.o];exact⟨LH.bp (ae.refl _ _),rfl⟩
    simp only[af];apply aY 10 _ rfl
    ·intro W vals hW ag
     clear ag;have hC:=hW.c;refine⟨?_⟩;simp only[fill];go_simp
     first | exact⟨LH.bp (ae.refl _ _),rfl⟩ | exact⟨LH.bp (ae.alloc _ _),rfl⟩
    simp only[af];refine vT 11 [39] (λl _ W' =>Row W' b 29 (X1.setIfInBounds 22 (l.headD undef))) rfl (by kernel_rfl) (λW vals hW ag φ' hφ=> ?_) ?_
    ·have hC:=hW.c
     simp only[cy]at ag
     try simp only[ai]at ag
     obtain⟨Wb,_,_,A9,c9,uo,_⟩:=ag.1 (by decide);have G4:=(show dP b wr W from hW.a (⟨1, [], [11,12], [0,1,2,3,4,5,6,7,10,11], [0,1,2,3,4,5,6,7,10,11]⟩:Iv) (by simp) rfl (by simp)) X1 je.o.g;refine uk (by kernel_rfl) 26 (.tmp 42) (.tmp 39) b 22 (vals 39) rfl (by kernel_rfl) (by kernel_rfl) (by rw[uo];rfl) (by rw[uo];rfl) (by kernel_rfl) G4 (by rw[je.o.x.z];decide) (λw' hr' hk' =>⟨⟨⟨λh=>h.trans hk' (λy hy hlt=>by have:=je.o.o;simp at hy;omega),λX hr=>hr.keep hk' (by have:=je.o.o;simp;omega)⟩,λx hx h1 h2=> ?_⟩,hφ.o _ _ hr'⟩);simp only[tU,tT,or_false]at hx
     rcases hx with rfl | rfl | rfl | rfl
     ·exact absurd (by simp) h2
     ·exact absurd (by simp) h2
     ·exact absurd (by simp) h1
     ·exact hk'
    simp only[af];apply aY 12 _ rfl
    ·intro W vals hW ag
     clear ag;have hC:=hW.c;refine⟨?_⟩;simp only[fill];go_simp
     first | exact⟨LH.bp (ae.refl _ _),rfl⟩ | exact⟨LH.bp (ae.alloc _ _),rfl⟩
    simp only[af];refine lz (λW9 vals hW ag=> ?_);simp only[fE]at ag
    try simp only[ai]at ag
    simp only[fill,Act.put,bo,bn,bh];obtain⟨⟨_,Wz,_,p1,hz⟩,⟨Wy,ay,p2,A9,c9,uo,sG⟩,-⟩:=ag;have Ob:=(show dP b Wz W9 from p1.a (⟨1, [0,1,2,3,4,5,6,7,10,11], [], [11], []⟩:Iv) (by simp) (by simp) rfl) _ hz;have Oc:=(show dP b wr Wy from ay.a (⟨1, [], [11,12], [0,1,2,3,4,5,6,7,10,11], [0,1,2,3,4,5,6,7,10,11]⟩:Iv) (by simp) rfl (by simp) (by simp)) X1 je.o.g;have Og:=sG.keep (show ae Wy W9 [b]from p2.a (⟨0, [0,1,2,3,4,5,6,7], [], [7], []⟩:Iv) (by simp) (by simp) rfl) (λx hx=> .inr λcs hr=>iJ Oc hr (by decide) (by simpa using (List.mem_singleton.1 hx).symm));have zg:Row W9 b 29 (X1.setIfInBounds 22 (vals 39)):=Ob;rw[uo]at zg;have HZ:=zh (show FN w W9 b (tH id) 22 3 1 jJ dC R A' (c1 - 1) r' (.slice A9 (acc++ [((y.toNat:Nat):Int)]).length c9) (acc++ [((y.toNat:Nat):Int)])from⟨⟨hW.old je.o.k,hW.box _ je.o.s,by rw[<-Mt.o]at zg;exact zg,je.o.o,by
     have h:=je.o.x.set 22 (v:= .slice A9 (acc++ [((y.toNat:Nat):Int)]).length c9) rfl;rw[<-Mt.o]at h;exact h⟩,Sj.o.keeps (hW.old je.o.k),Og,HG.o⟩)
    have Ca:(y::r').length=r'.length+1:=rfl;have qq:(acc++ [((y.toNat:Nat):Int)]).length=acc.length+1:=by simp
    clear Ob Oc Og zg uo sG p1 p2 ay hz hW LH
    go_wp2_with fail
    exact⟨⟨A',c1 - 1,r',_,acc++ [((y.toNat:Nat):Int)],rfl,HZ,by omega⟩,by simp[sliceLen]⟩

theorem yJ (w:au)(A:Option Addr)(c:Nat)(l:aG)(h:lL w w.heap.size A c l)(hl:l.length<=100000):Calls prog 45 #[.int .i64 8,.slice A l.length c] w (rm w 8 l):=by
 obtain⟨W0,aV⟩:∃W0,w.alloc (.cells cT 29)=W0:=⟨_,rfl⟩;have HK:=zh (show ae w W0 []by rw[<-aV];exact ae.alloc _ _);have fw:=zh (show Row W0 w.heap.size 29 cT by rw[<-aV];exact Row.new _ _ _);have HH:=zh h
 by_cases h2:l.length < 2
 ·have d1:decide ((l.length:Int) < 2)=true:=bz (by omega)
  have HN:=zh (show dV 8 l=none by unfold dV;rw[tC h2];rfl);clear h h2 hl
  go_enter func45,ntmps45
  go_upto_region 1 with fail
  try rw[aV]
  clear aV
  go_wp2_with (refine wpList_store_row rfl (.tmp 4) (.tmp 13) 29 rfl w.heap.size cT cT fw.o (by kernel_rfl) rfl (by simp[Value.oneCell']) rfl rfl ?_;intro va ra ka;refine Hid.o ?_)
  refine zh ?_;have HE:=zh (And.intro ra (HK.o.trans ka (λy hy hlt=>by simp at hy;omega)));clear ra ka
  go_wp2_with fail
  refine bD (bV rfl rfl HE.o.1 rfl) rfl ⟨HE.o.2, ?_⟩;rw[HN.o];exact⟨cT,rfl,by simp[Value.oneCell'],rfl⟩
 ·have h2' :2<=l.length:=by omega
  have d1:decide ((l.length:Int) < 2)=false:=aZ (by omega);obtain⟨id,hid,cS⟩:=qP 8 h2';have iz:=zh cS;have b0:=eW l (k:=0) (by omega);have b1:=eW l (k:=1) (by omega);obtain⟨g,o,rfl,_,m0⟩:=HH.o.lies.at_ (k:=0) (by simp;omega);obtain⟨g',o',e',_,m1⟩:=HH.o.lies.at_ (k:=1) (by simp;omega);injection e' with e'
  injection e' with e1 e2
  subst e1 e2;rw[b0]at m0;rw[b1]at m1;have M0:=zh (λ(W' :au) (hW:ae w W' [])=>((hW.cell (p:=⟨g,o+0,none⟩) (by assumption) (by simp))).trans m0);have M1:=zh (λ(W' :au) (hW:ae w W' [])=>((hW.cell (p:=⟨g,o+1,none⟩) (by assumption) (by simp))).trans m1);clear b0 b1 m0 m1 h;have Eu:=zh (l[0].toNat_lt);have DY:=zh (l[1].toNat_lt)
  generalize l[0].toNat=k1 at*
  generalize l[1].toNat=k2 at*
  have s1:IntKind.i64.wrap (k1:Int)=(k1:Int):=by have:=Eu.o;exact IntWalk.i64_in _ ⟨by omega,by omega⟩
  have s2:IntKind.i64.wrap (k2:Int)=(k2:Int):=by have:=DY.o;exact IntWalk.i64_in _ ⟨by omega,by omega⟩
  have s3:IntKind.i64.wrap (256*(k1:Int))=256*(k1:Int):=by have:=Eu.o;exact IntWalk.i64_in _ ⟨by omega,by omega⟩
  have s4:IntKind.i64.wrap (256*(k1:Int)+(k2:Int))=(id:Int):=by have:=Eu.o;have:=DY.o;rw[IntWalk.i64_in _ ⟨by omega,by omega⟩];omega
  have HS:=zh (And.intro s1 (And.intro s2 (And.intro s3 s4)));clear s1 s2 s3 s4 hid cS
  go_enter func45,ntmps45
  go_upto_region 1 with fail
  try rw[aV]
  clear aV
  go_upto_region 3 with fail
  refine cE ax _ 12 (by kernel_rfl) rfl (by kernel_rfl) (λ_=>ae.refl _ _) (λ_ _ _ h k=>h.trans k (by simp)) (ae.drew _) ?_;simp only[dc,dg,dF,dK];refine lq (.slice (some ⟨g,o,none⟩) l.length c) ?_;simp only[af];apply ak
  ·intro W vals hW ag
   simp only[knows]at ag
   try simp only[ai]at ag
   clear ag;have m:0 < l.length:=by omega
   refine⟨?_⟩;simp only[fill];go_simp
   first | exact⟨ae.refl _ _,rfl⟩ | exact⟨ae.alloc _ _,rfl⟩
  simp only[af];refine ll 5 (.tmp 15) (⟨g,o,none⟩) (.int .u8 (k1:Int)) (λW hW=>M0.o W (HK.o.ah hW)) ?_;refine aK (.int .i64 (k1:Int)) (λ_=>by kernel_rfl) (λW _=>(show _=Result.ok (Next.value (.int .i64 (IntKind.i64.wrap (k1:Int)))) W by kernel_rfl).trans (by rw[HS.o.1])) ?_;refine aK (.int .i64 (256*(k1:Int))) (λ_=>by kernel_rfl) (λW _=>(show _=Result.ok (Next.value (.int .i64 (IntKind.i64.wrap (256*(k1:Int))))) W by kernel_rfl).trans (by rw[HS.o.2.2.1])) ?_;refine lq (.slice (some ⟨g,o,none⟩) l.length c) ?_;simp only[af];apply ak
  ·intro W vals hW ag
   simp only[knows]at ag
   try simp only[ai]at ag
   clear ag;have m:(1:Int) < (l.length:Int):=(by omega);refine⟨?_⟩;simp only[fill];go_simp
   first | exact⟨ae.refl _ _,rfl⟩ | exact⟨ae.alloc _ _,rfl⟩
  simp only[af];refine ll 5 (.tmp 20) (⟨g,o+1,none⟩) (.int .u8 (k2:Int)) (λW hW=>M1.o W (HK.o.ah hW)) ?_;refine aK (.int .i64 (k2:Int)) (λ_=>by kernel_rfl) (λW _=>(show _=Result.ok (Next.value (.int .i64 (IntKind.i64.wrap (k2:Int)))) W by kernel_rfl).trans (by rw[HS.o.2.1])) ?_;refine aK (.int .i64 (id:Int)) (λ_=>by kernel_rfl) (λW _=>(show _=Result.ok (Next.value (.int .i64 (IntKind.i64.wrap (256*(k1:Int)+(k2:Int))))) W by kernel_rfl).trans (by rw[HS.o.2.2.2])) ?_;simp only[af];refine lq (.agg (tH id)) ?_;simp only[af];refine bH (λv W' =>∃b,v= .pointer (some ⟨b,0,none⟩)/\Row W' b 29 cT/\W0.heap.size<=b) (λW vals hW ag φ' hφ=> ?_) ?_
  ·simp only[knows]at ag
   try simp only[ai]at ag
   (have hz:=hW.size;clear ag)
   refine⟨?_⟩;simp only[fill];go_simp;exact⟨ae.alloc _ _,hφ.o _ _ ⟨_,rfl,Row.new _ _ _,hz⟩⟩
  simp only[af];refine aq (λW vals hW ag=> ?_);simp only[aw]at ag
  try simp only[ai]at ag
  simp only[fill,Act.put,bo,bn,bh];obtain⟨W1,h0,h1,b,hv,hr,hb⟩:=ag;rw[hv];have HG:=zh (hr.keeps h1);have HO:=zh (show w.heap.size < b by have:=fw.o.lt;omega);have HW:=zh hW;clear h0 h1 hr hb hW hv M0 M1
  go_wp2_with (refine wpList_store_row rfl (.tmp 6) (.tmp 24) 29 rfl b (tH id) cT HG.o (by kernel_rfl) rfl (by simp[Value.oneCell']) rfl rfl ?_;intro va ra ka;refine Hid.o ?_)
  refine zh ?_;have ST:=zh (show lO w va b (tH id)from⟨(HK.o.ah HW.o).trans ka (λy hy hlt=>by have:=HO.o;simp at hy;omega),(fw.o.keeps HW.o).keep ka (by have:=HO.o;simp;omega),ra,HO.o,⟨rfl,by simp[Value.oneCell']⟩⟩);clear ra ka HG HO HW HS HK fw Eu DY
  go_upto_region 4 with fail
  obtain⟨A2,zr⟩:∃A2,(if c=2 then some ⟨g,o,none⟩else(some (⟨g,o,none⟩:Addr)).map (·.add 2))=A2:=⟨_,rfl⟩;have zF:=zh (show lL va w.heap.size A2 (c - 2) (l.drop 2)from by rw[<-zr];exact(HH.o.keeps ST.o.k).drop h2');refine cV ?_;refine aA (.slice (some ⟨g,o,none⟩) l.length c) rfl (by kernel_rfl) ?_;refine aA (.slice A2 (l.length - 2) (c - 2)) rfl (by rw[eU (x:= .tmp 25) (lo:= .const (.int .i64 2)) (a:=some ⟨g,o,none⟩) (len:=l.length) (cap:=c) (l:=2) (kl:= .i64) rfl (by kernel_rfl) (by kernel_rfl) h2',zr]) ?_;refine aA (.slice A2 (l.length - 2) (c - 2)) rfl (by kernel_rfl) ?_;simp only[Act.put,bo,bn,bh];have wJ:=zh (show dV 8 l=(bM cU (l.drop 2).length (l.drop 2)).bind λaz=>some {bN with id:=(id:Int),wants:=az}from by unfold dV;rw[iz.o,di,aE rfl]);have og:=zh (show(l.drop 2).length=l.length - 2 from dQ);obtain⟨l2,hl2⟩:∃l2,l.drop 2=l2:=⟨_,rfl⟩;rw[hl2]at wJ og zF;rw[<-og.o];obtain⟨R,hR⟩:∃R,bM cU l2.length l2=R:=⟨_,rfl⟩;have FO:=zh (show R=(bM cU l2.length l2).map ([]++ ·)by rw[hR];cases R <;> rfl);rw[hR]at wJ;have oI:=zh (show l2.length<=100000 by have:=og.o;omega);clear hR hl2 h2 h2' d1 iz og zr HH hl
  go_wp2_with fail
  go_loopw [1] (λsb wr=>∃(A:Option Addr) (c:Nat) (r:aG) (v:Value) (acc:List (aG×Int)),sb= .slice A r.length c/\Hid (FN w wr b (tH id) 21 50 2 gK cU R A c r v acc)/\acc.length+r.length<=l2.length) (λsb _=>sliceLen sb)
  case atStart=>exact⟨A2,c - 2,l2,.slice none 0 0, [],rfl,zh ⟨ST.o,zF.o,dn.nil _ _ _ _ _,FO.o⟩,by simp⟩
  case round=>
   obtain⟨A1,c1,r,v,acc,rfl,HT,hle⟩:=hrel
   by_cases hr:r= []
   ·subst hr
    have hgt:decide ((([]:aG).length:Int) > 0)=false:=aZ (by simp);obtain⟨Av,cv,rfl⟩:=dn.slice HT.o.own;have HN:=zh (show dV 8 l=some {bN with id:=(id:Int),wants:=acc}by
     have h1:R=some (acc++ []):=HT.o.e;rw[wJ.o,h1,dJ];rfl)
    have HP:=zh (show∀e w',e= .returned (.tuple #[.agg ((tH id).setIfInBounds 21 (.slice Av acc.length cv)),.bool true])->ae w w' []->bw w' 50 2 gK Av acc->rm w 8 l e w' from λe w' h1 h2 h3=>⟨h2,by rw[HN.o];exact⟨.slice Av acc.length cv,.slice none 0 0,.slice none 0 0,h1,⟨⟨Av,cv,rfl,h3⟩,⟨none,0,rfl,bw.nil _ _ _ _ _⟩,⟨none,0,rfl,bw.nil _ _ _ _ _⟩⟩⟩⟩);have ML:=zh (dn.at_ HT.o.own uO);have jc:=zh HT.o.co;clear HN HT wJ;obtain⟨Y,hY⟩:∃Y,(tH id).setIfInBounds 21 (.slice Av acc.length cv)=Y:=⟨_,rfl⟩;rw[hY]at jc HP;clear hY
    go_wp2_with (first | (refine bf (by kernel_rfl) rfl rfl jc.o.g underlying29 rfl (by rw[jc.o.x.z];kernel_rfl) ?_) | (refine wpList_store_row rfl (.tmp 4) (.tmp 83) 29 rfl w.heap.size Y cT jc.o.s (by rw[jc.o.x.z];kernel_rfl) (by rw[jc.o.x.z];rfl) jc.o.x.one rfl rfl ?_;intro va ra ka;refine Hid.o ?_))
    refine zh ?_;have HE:=zh (And.intro ra (And.intro (jc.o.k.trans ka (λy hy hlt=>by simp at hy;omega)) (ML.o.box ka jc.o.s (by decide))));have uB:=zh jc.o.x;clear ra ka
    go_wp2_with fail
    refine bD (bV rfl rfl HE.o.1 uB.o.z) rfl ?_;have hh:=HP.o _ _ rfl HE.o.2.1 HE.o.2.2;exact hh
   ·have hpos:0 < r.length:=List.length_pos_iff.2 hr
    have hgt:decide ((r.length:Int) > 0)=true:=bz (by omega)
    go_wp2_with fail
    refine(mf _ w.heap.size A1 c1 r HT.o.rb).mono ?_;rintro e w1 ⟨hk1,hp⟩
    cases hX:cQ r with
    | none=>
     rw[hX]at hp;subst hp;have HN:=zh (show dV 8 l=none by rw[wJ.o,jH hr (by unfold cU;rw[hX];rfl) HT.o.e];rfl);have jc:=zh (HT.o.co.keeps hk1);clear hX hk1 HT;obtain⟨Y,hY⟩:∃Y,(tH id).setIfInBounds 21 v=Y:=⟨_,rfl⟩;rw[hY]at jc;clear hY
     go_wp2_with (first | (refine bf (by kernel_rfl) rfl rfl jc.o.g underlying29 rfl (by rw[jc.o.x.z];kernel_rfl) ?_) | (refine wpList_store_row rfl (.tmp 4) (.tmp 60) 29 rfl w.heap.size Y cT jc.o.s (by rw[jc.o.x.z];kernel_rfl) (by rw[jc.o.x.z];rfl) jc.o.x.one rfl rfl ?_;intro va ra ka;refine Hid.o ?_))
     refine zh ?_;have HE:=zh (And.intro ra (jc.o.k.trans ka (λy hy hlt=>by simp at hy;omega)));have uB:=zh jc.o.x;clear ra ka
     go_wp2_with fail
     refine bD (bV rfl rfl HE.o.1 uB.o.z) rfl ⟨HE.o.2, ?_⟩;rw[HN.o];exact⟨Y,uB.o.z,uB.o.one,rfl⟩
    | some sr=>
     obtain⟨s,r1⟩:=sr;rw[hX]at hp;obtain⟨A3,c3,rfl,Dv⟩:=hp;have hlt:=mV hX
     by_cases hr1:r1= []
     ·subst hr1
      have HN:=zh (show dV 8 l=none by rw[wJ.o,jH hr (by unfold cU;rw[hX];rfl) HT.o.e];rfl);have jc:=zh (HT.o.co.keeps hk1);obtain⟨S,hS⟩:∃S:ByteArray,(⟨s.toArray⟩:ByteArray)=S:=⟨_,rfl⟩;rw[hS];have h00:(([]:aG).length:Int)=0:=rfl;clear hX hk1 HT Dv hS;obtain⟨Y,hY⟩:∃Y,(tH id).setIfInBounds 21 v=Y:=⟨_,rfl⟩;rw[hY]at jc;clear hY
      go_wp2_with (first | (refine bf (by kernel_rfl) rfl rfl jc.o.g underlying29 rfl (by rw[jc.o.x.z];kernel_rfl) ?_) | (refine wpList_store_row rfl (.tmp 4) (.tmp 60) 29 rfl w.heap.size Y cT jc.o.s (by rw[jc.o.x.z];kernel_rfl) (by rw[jc.o.x.z];rfl) jc.o.x.one rfl rfl ?_;intro va ra ka;refine Hid.o ?_))
      refine zh ?_;have HE:=zh (And.intro ra (jc.o.k.trans ka (λy hy hlt=>by simp at hy;omega)));have uB:=zh jc.o.x;clear ra ka
      go_wp2_with fail
      refine bD (bV rfl rfl HE.o.1 uB.o.z) rfl ⟨HE.o.2, ?_⟩;rw[HN.o];exact⟨Y,uB.o.z,uB.o.one,rfl⟩
     ·obtain⟨y,r',rfl⟩:∃y r',r1=y::r' :=by
       rcases r1 with _ | ⟨y,r'⟩
       ·exact absurd rfl hr1
       ·exact⟨y,r',rfl⟩
      have kq:cU r=some ((s,(y.toNat:Int)),r'):=by
       unfold cU jv;rw[hX,di,aE (by simp)];simp[qw]
      obtain⟨Av,cv,rfl⟩:=dn.slice HT.o.own;have HG:=zh (mW (λl a r h=>nI h) hr kq HT.o.e);obtain⟨X1,FA⟩:∃X1,(tH id).setIfInBounds 21 (.slice Av acc.length cv)=X1:=⟨_,rfl⟩;have Mt:=zh FA;have MV:=zh (show X1[21]? =some (Value.slice Av acc.length cv)from by rw[<-FA];rfl);have je:=zh (HT.o.co.keeps hk1);have IG:=zh (HT.o.own.keeps hk1);have Cg:=zh Dv;rw[FA]at je;obtain⟨S,hS⟩:∃S:ByteArray,(⟨s.toArray⟩:ByteArray)=S:=⟨_,rfl⟩;have HS:=zh hS;rw[hS];clear FA HT hX kq hS hk1 Dv;have Kr:=zh (Cg.o.first je.o.k);obtain⟨gb,ob,rfl,hgb,mb⟩:=Kr.o.below.at_ (k:=0) (by simp);have I8:=zh (show∀W,ae w W []->W.cell? ⟨gb,ob,none⟩=some (.int .u8 (y.toNat:Nat))from λW hW=>(hW.cell (p:=⟨gb,ob,none⟩) hgb (by simp)).trans mb);have OZ:=zh (show wrap64 (y.toNat:Int)=(y.toNat:Int)/\IntKind.i64.wrap (y.toNat:Int)=(y.toNat:Int)from by have:=y.toNat_lt;exact⟨by unfold wrap64;omega,IntWalk.i64_in _ ⟨by omega,by omega⟩⟩);obtain⟨A',hA'⟩:∃A',(if c3=1 then some ⟨gb,ob,none⟩else(some (⟨gb,ob,none⟩:Addr)).map (·.add 1))=A' :=⟨_,rfl⟩;have I9 :=zh hA';have Sj:=zh (show lL w w.heap.size A' (c3 - 1) r' from by rw[<-hA'];exact Kr.o.drop (k:=1) (by simp));have K3:=zh (show acc.length<=100000 by have:=oI.o;omega);clear mb hA' Cg
      go_upto_region 13 with fail
      have LH:jL [(⟨0, [], [9,12,13,14], [0,1,2,3,4,5,6,7,8,9], [0,1,2,3,4,5,6,7,8,9]⟩:Iv),(⟨1, [], [13,14], [0,1,2,3,4,5,6,7,8,9,12,13], [0,1,2,3,4,5,6,7,8,9,12,13]⟩:Iv),(⟨1, [0,1,2,3,4,5,6,7,8,9,12,13], [], [13], []⟩:Iv),(⟨0, [0,1,2,3,4,5,6,7,8,9], [], [9], []⟩:Iv)] (KX w) (EF (pT b) (dP b)):= .two (KX.ok _) (pT.ok b) (dP.ok b);refine iQ [(⟨0, [], [9,12,13,14], [0,1,2,3,4,5,6,7,8,9], [0,1,2,3,4,5,6,7,8,9]⟩:Iv),(⟨1, [], [13,14], [0,1,2,3,4,5,6,7,8,9,12,13], [0,1,2,3,4,5,6,7,8,9,12,13]⟩:Iv),(⟨1, [0,1,2,3,4,5,6,7,8,9,12,13], [], [13], []⟩:Iv),(⟨0, [0,1,2,3,4,5,6,7,8,9], [], [9], []⟩:Iv)] (KX w) (EF (pT b) (dP b)) _ 15 LH (by kernel_rfl) rfl (by kernel_rfl) ?_;simp only[dc,dg,dF,dK];apply aY 0 _ rfl
      ·intro W vals hW ag
       clear ag;have hC:=hW.c;refine⟨?_⟩;simp only[fill];go_simp
       first | exact⟨LH.bp (ae.refl _ _),rfl⟩ | exact⟨LH.bp (ae.alloc _ _),rfl⟩
      simp only[af];apply aY 1 _ rfl
      ·intro W vals hW ag
       have hC:=hW.c;simp only[cy]at ag
       try simp only[ai]at ag
       have hrow:=(show dP b w1 W from hW.a (⟨1, [], [13,14], [0,1,2,3,4,5,6,7,8,9,12,13], [0,1,2,3,4,5,6,7,8,9,12,13]⟩:Iv) (by simp) rfl (by simp)) X1 je.o.g;have m:=(hrow.cell 21).trans MV.o;clear ag;refine⟨?_⟩;simp only[fill];go_simp
       first | exact⟨LH.bp (ae.refl _ _),rfl⟩ | exact⟨LH.bp (ae.alloc _ _),rfl⟩
      simp only[af];apply aY 2 _ rfl
      ·intro W vals hW ag
       clear ag;have hC:=hW.c;refine⟨?_⟩;simp only[fill];go_simp
       first | exact⟨LH.bp (ae.refl _ _),rfl⟩ | exact⟨LH.bp (ae.alloc _ _),rfl⟩
      simp only[af];apply aY 3 _ rfl
      ·intro W vals hW ag
       clear ag;have hC:=hW.c;refine⟨?_⟩;simp only[fill];go_simp
       first | exact⟨LH.bp (ae.refl _ _),rfl⟩ | exact⟨LH.bp (ae.alloc _ _),rfl⟩
      simp only[af];apply aY 4 _ rfl
      ·intro W vals hW ag
       clear ag;have hC:=hW.c;refine⟨?_⟩;simp only[fill];go_simp
       first | exact⟨LH.bp (ae.refl _ _),rfl⟩ | exact⟨LH.bp (ae.alloc _ _),rfl⟩
      simp only[af];apply aY 5 _ rfl
      ·intro W vals hW ag
       have hC:=hW.c;simp only[cy]at ag
       try simp only[ai]at ag
       have m:=I8.o W (hC.old je.o.k);clear ag;refine⟨?_⟩;simp only[fill];go_simp
       first | exact⟨LH.bp (ae.refl _ _),rfl⟩ | exact⟨LH.bp (ae.alloc _ _),rfl⟩
      simp only[af];apply aY 6 _ rfl
      ·intro W vals hW ag
       have hC:=hW.c;simp only[cy]at ag
       try simp only[ai]at ag
       have m:=OZ.o.1;have m2:=OZ.o.2;clear ag;refine⟨?_⟩;simp only[fill];go_simp
       first | exact⟨LH.bp (ae.refl _ _),rfl⟩ | exact⟨LH.bp (ae.alloc _ _),rfl⟩
      simp only[af];apply aY 7 _ rfl
      ·intro W vals hW ag
       clear ag;have hC:=hW.c;refine⟨?_⟩;simp only[fill];go_simp
       first | exact⟨LH.bp (ae.refl _ _),rfl⟩ | exact⟨LH.bp (ae.alloc _ _),rfl⟩
      simp only[af];refine db 8 (λv W' =>∃b',v= .slice (some ⟨b',0,none⟩) 1 1/\Row W' b' 50 #[.string S,.int .i64 (y.toNat:Nat)]) rfl (λW vals hW ag φ' hφ=> ?_) ?_
      ·have hC:=hW.c
       simp only[cy]at ag
       try simp only[ai]at ag
       clear ag;refine⟨?_⟩;simp only[fill];go_simp;exact⟨LH.bp (ae.alloc _ _),hφ.o _ _ ⟨_,rfl,Row.new _ _ _⟩⟩
      simp only[af];refine db 9 (λu W' =>∃A c,u= .slice A (acc++ [(s,((y.toNat:Nat):Int))]).length c/\dn W' w.heap.size 50 2 gK (.slice A (acc++ [(s,((y.toNat:Nat):Int))]).length c) (acc++ [(s,((y.toNat:Nat):Int))])) rfl (λW vals hW ag φ' hφ=> ?_) ?_
      ·have hC:=hW.c
       simp only[cy]at ag
       try simp only[ai]at ag
       obtain⟨Wb,ab,b1,b',hv',hr'⟩:=ag (by decide);have rB:=(show dP b w1 Wb from ab.a (⟨1, [], [13,14], [0,1,2,3,4,5,6,7,8,9,12,13], [0,1,2,3,4,5,6,7,8,9,12,13]⟩:Iv) (by simp) rfl (by simp) (by simp)) X1 je.o.g;have G4:=(show dP b w1 W from hW.a (⟨1, [], [13,14], [0,1,2,3,4,5,6,7,8,9,12,13], [0,1,2,3,4,5,6,7,8,9,12,13]⟩:Iv) (by simp) rfl (by simp)) X1 je.o.g;have ho:=IG.o.keep (show ae w1 W [b]from hW.a (⟨0, [], [9,12,13,14], [0,1,2,3,4,5,6,7,8,9], [0,1,2,3,4,5,6,7,8,9]⟩:Iv) (by simp) rfl (by simp)) (λx hx=> .inr λcs hr=>iJ je.o.g hr (by decide) (by simpa using (List.mem_singleton.1 hx).symm));have hr2:=hr'.keep (show ae Wb W [b]from b1.a (⟨0, [], [9,12,13,14], [0,1,2,3,4,5,6,7,8,9], [0,1,2,3,4,5,6,7,8,9]⟩:Iv) (by simp) (by simp) (by simp)) (by simpa using iJ hr' rB (by decide));have hown:∀g∈(Value.slice Av acc.length cv).ownBlock.toList,w.heap.size<=g/\∃cs,Row W g 50 cs:=ho.rows;refine qF yg uO rfl (.tmp 65) (.tmp 72) rfl w.heap.size (.slice Av acc.length cv) (some ⟨b',0,none⟩) 1 1 acc [(s,((y.toNat:Nat):Int))] rfl (by kernel_rfl) ((show _=vals 72 by kernel_rfl).trans hv') ho (fJ hr2 (by rw[<-HS.o];rfl)) (by have:=K3.o;simp;omega) (hC.old je.o.k).size (λA' c' w' ho' hk' _=>⟨⟨⟨λh=>h.trans hk' (λy hy hlt=>absurd (hown y hy).1 (by omega)),λX hr=>hr.keep hk' (λhm=>by
        obtain⟨_,cs,LJ⟩:=hown _ hm;exact iJ (hC.box _ je.o.s) LJ (by decide) rfl)⟩,λx hx h1 h2=> ?_⟩,hφ.o _ _ ⟨A',c',rfl,ho'⟩⟩)
       simp only[tU,tT,or_false]at hx
       rcases hx with rfl | rfl | rfl | rfl
       ·exact absurd (by simp) h2
       ·exact λX hr=>hr.keep hk' (λhm=>by
         obtain⟨_,cs,LJ⟩:=hown _ hm;exact iJ G4 LJ (by decide) rfl)
       ·exact absurd (by simp) h1
       ·exact absurd (by simp) h1
      simp only[af];apply aY 10 _ rfl
      ·intro W vals hW ag
       clear ag;have hC:=hW.c;refine⟨?_⟩;simp only[fill];go_simp
       first | exact⟨LH.bp (ae.refl _ _),rfl⟩ | exact⟨LH.bp (ae.alloc _ _),rfl⟩
      simp only[af];refine aY 11 (.slice A' r'.length (c3 - 1)) rfl (λW vals hW ag=>⟨?_⟩) ?_
      ·rw[aE (by kernel_rfl)]
       rw[eU (x:= .tmp 74) (lo:= .const (.int .i64 1)) (a:=some ⟨gb,ob,none⟩) (len:=(y::r').length) (cap:=c3) (l:=1) (kl:= .i64) rfl (by kernel_rfl) (by kernel_rfl) (iG _),I9.o];exact⟨LH.bp (ae.refl _ _),rfl⟩
      simp only[af];apply aY 12 _ rfl
      ·intro W vals hW ag
       clear ag;have hC:=hW.c;refine⟨?_⟩;simp only[fill];go_simp
       first | exact⟨LH.bp (ae.refl _ _),rfl⟩ | exact⟨LH.bp (ae.alloc _ _),rfl⟩
      simp only[af];refine vT 13 [73] (λl _ W' =>Row W' b 29 (X1.setIfInBounds 21 (l.headD undef))) rfl (by kernel_rfl) (λW vals hW ag φ' hφ=> ?_) ?_
      ·have hC:=hW.c
       simp only[cy]at ag
       try simp only[ai]at ag
       obtain⟨Wb,_,_,A9,c9,uo,_⟩:=ag.1 (by decide);have G4:=(show dP b w1 W from hW.a (⟨1, [], [13,14], [0,1,2,3,4,5,6,7,8,9,12,13], [0,1,2,3,4,5,6,7,8,9,12,13]⟩:Iv) (by simp) rfl (by simp)) X1 je.o.g;refine uk (by kernel_rfl) 25 (.tmp 76) (.tmp 73) b 21 (vals 73) rfl (by kernel_rfl) (by kernel_rfl) (by rw[uo];rfl) (by rw[uo];rfl) (by kernel_rfl) G4 (by rw[je.o.x.z];decide) (λw' hr' hk' =>⟨⟨⟨λh=>h.trans hk' (λy hy hlt=>by have:=je.o.o;simp at hy;omega),λX hr=>hr.keep hk' (by have:=je.o.o;simp;omega)⟩,λx hx h1 h2=> ?_⟩,hφ.o _ _ hr'⟩);simp only[tU,tT,or_false]at hx
       rcases hx with rfl | rfl | rfl | rfl
       ·exact absurd (by simp) h2
       ·exact absurd (by simp) h2
       ·exact absurd (by simp) h1
       ·exact hk'
      simp only[af];apply aY 14 _ rfl
      ·intro W vals hW ag
       clear ag;have hC:=hW.c;refine⟨?_⟩;simp only[fill];go_simp
       first | exact⟨LH.bp (ae.refl _ _),rfl⟩ | exact⟨LH.bp (ae.alloc _ _),rfl⟩
      simp only[af];refine lz (λW9 vals hW ag=> ?_);simp only[fE]at ag
      try simp only[ai]at ag
      simp only[fill,Act.put,bo,bn,bh];obtain⟨⟨_,Wz,_,p1,hz⟩,⟨Wy,ay,p2,A9,c9,uo,sG⟩,-⟩:=ag;have Ob:=(show dP b Wz W9 from p1.a (⟨1, [0,1,2,3,4,5,6,7,8,9,12,13], [], [13], []⟩:Iv) (by simp) (by simp) rfl) _ hz;have Oc:=(show dP b w1 Wy from ay.a (⟨1, [], [13,14], [0,1,2,3,4,5,6,7,8,9,12,13], [0,1,2,3,4,5,6,7,8,9,12,13]⟩:Iv) (by simp) rfl (by simp) (by simp)) X1 je.o.g;have Og:=sG.keep (show ae Wy W9 [b]from p2.a (⟨0, [0,1,2,3,4,5,6,7,8,9], [], [9], []⟩:Iv) (by simp) (by simp) rfl) (λx hx=> .inr λcs hr=>iJ Oc hr (by decide) (by simpa using (List.mem_singleton.1 hx).symm));have zg:Row W9 b 29 (X1.setIfInBounds 21 (vals 73)):=Ob;rw[uo]at zg;have HZ:=zh (show FN w W9 b (tH id) 21 50 2 gK cU R A' (c3 - 1) r' (.slice A9 (acc++ [(s,((y.toNat:Nat):Int))]).length c9) (acc++ [(s,((y.toNat:Nat):Int))])from⟨⟨hW.old je.o.k,hW.box _ je.o.s,by rw[<-Mt.o]at zg;exact zg,je.o.o,by
       have h:=je.o.x.set 21 (v:= .slice A9 (acc++ [(s,((y.toNat:Nat):Int))]).length c9) rfl;rw[<-Mt.o]at h;exact h⟩,Sj.o.keeps (hW.old je.o.k),Og,HG.o⟩)
      have Ca:(y::r').length=r'.length+1:=rfl;have qq:(acc++ [(s,((y.toNat:Nat):Int))]).length=acc.length+1:=by simp
      clear Ob Oc Og zg uo sG p1 p2 ay hz hW LH
      go_wp2_with fail
      exact⟨⟨A',c3 - 1,r',_,acc++ [(s,((y.toNat:Nat):Int))],rfl,HZ,by omega⟩,by simp[sliceLen];omega⟩
end Go.Proofs.YtahbikfbjenfpaaGreatDoor
