/- A region that draws its order, inside a fence (a round of a range over a function): each operation met once. Package utf: the runes of a text (an iterator). Package utf: Wrong, Check. -/
import Derived.Test.YtahbikfbjenfpaaGreatDoorPa2
import Derived.OrdersIn
import Derived.OwnWalkIn
import Derived.Test.YtahbikfbjenfpaaGreatDoorPa8
import Derived.RangeFuncNested
import Derived.RangeFuncBound
import Derived.RangeFuncCalls
import Derived.RangeFuncLeaves
import Derived.RangeFuncBox
import Derived.Shelf.Abstract
import Derived.Shelf.RegionOpen
import Derived.TacticsInMore
import Derived.LoopNIn
import Derived.LoopIn
import Derived.RangeFuncWrites
import Derived.RangeFuncKeeps
import Derived.Maps.OwnIn
set_option maxHeartbeats 4000000
set_option maxRecDepth 100000
namespace Go.Proofs.YtahbikfbjenfpaaGreatDoor
open Tryz

theorem lC {F:Fence}(hF:F.plain=Fence.wide){k:Nat}{P:Program}{f:FuncId}{args:Array Value}{w:au}{S:Ending->au->Prop}(h:Calls P f args w S):CallsIn F k P f args w S:=by
 have h1:CallsIn F.plain k P f args w S:=by rw[hF];exact callsIn_wide.2 h
 exact h1
def Nj (ops:Array Oper):Bool:=ops.all λo=>match o.op with | .defer _=>false | _=>true
section
variable {P:Program} {R:au->au->Prop} {w0:au} {ops:Array Oper} {vals:Tmp->Value}
end
end Go.Proofs.YtahbikfbjenfpaaGreatDoor

namespace Go.Proofs.YtahbikfbjenfpaaGreatDoor
open Tryz Go.RowKit Go.Shelf

attribute [local go_sem] Oper.semAt_some

theorem ae.L_ {w w' :au}(h:ae w w' []):w.grownBy w' none:=⟨h.os,h.tape,h.output,h.size,λk hk _=>h.block k hk (by simp)⟩
/-- What a rune and its place are handed on as. -/
def Ae (x:Nat×Nat):Array Value:= #[.int .i64 ((x.1:Nat):Int),.int .i32 ((x.2:Nat):Int)]
/-- What is known where all were told, or where it was left. -/
def Ky (s:aG)(ys:List (Nat×Nat)):Prop:=(∀x∈ys,x.2≠0)->fB s=true
def Kx (s:aG)(ys:List (Nat×Nat)):Prop:=(∃x∈ys,x.2=0)->fB s=false
theorem Cl (F:Fence)(n:Nat)(hF:F.plain=Fence.wide)(hf:F.fn 186)(hro:F.round=none)(hn:1<=n)(l b n₀:Nat)(s:aG)(hs:s.length<=60000)(W:au)(J Jx:List (Nat×Nat)->au->Prop)
  (P3:AbidesFrom W.heap.size J) (hn₀:n₀<=W.heap.size) (hb:b < n₀)
  (hY:∀pre x W1,J pre W1->pre.length < s.length+1->YieldAt F (n - 1) prog l (Ae x) W1 λe W' =>
   (e= .returned (.bool true)/\J (pre++ [x]) W' /\Below n₀ W1 W')\/(e= .returned (.bool false)/\Jx (pre++ [x]) W'))
  (hc:W.cell? ⟨b,0,none⟩=some (.string ⟨s.toArray⟩)) (h0:J [] W):
  CallsIn F n prog 186 #[.func (.yield l) #[] #[],.pointer (some ⟨b,0,none⟩)] W λe W' =>(∃v,e= .returned v)/\
   ((∃ys,Ky s ys/\J ys W')\/(∃pre,Kx s pre/\Jx pre W')):=by
 have hfn:∀f,F.fn f:=λf=>by
  have:F.plain.fn f:=by rw[hF];trivial
  exact this
 obtain⟨S,hS⟩:∃S:ByteArray,(⟨s.toArray⟩:ByteArray)=S:=⟨_,rfl⟩;have hsz:S.size=s.length:=by rw[<-hS];rfl
 rw[hS]at hc;have HF:=zh (And.intro hF hfn);have HS:=zh (And.intro hS hsz);have HJ:=zh P3;have HY:=zh hY;have HC:=zh hc;have HL:=zh hs;clear hfn P3 hY hc hS hs;refine callsIn_of_wp func186 rfl hf ?_ hro;simp only[ntmps186,oq,du,dR,Nat.reduceAdd,Nat.reduceSub,xE,xD,xC,xB,jD,jS]
 gi_wp2
 gi_loopw [3] (λi wr=>∃k:Nat,k<=s.length/\i= .int .i64 k/\∃pre,J pre wr/\Below n₀ W wr/\pre.length<=k/\(∀x∈pre,x.2≠0)/\fB s=fB (s.drop k)) (λi _=>s.length - (intOf i).toNat)
 case atStart=>exact⟨0,by omega,rfl, [],h0,Below.refl _ _,by simp,λx hx=>(by cases hx),rfl⟩
 case round=>
  obtain⟨k,hk,rfl,pre,L6,hnx,hpl,SZ,hgd⟩:=hrel;have hsl:=HS.o.2;have Wq:=HL.o;have cb:wr.cell? ⟨b,0,none⟩=some (.string S):=(hnx.cell (p:=⟨b,0,none⟩) hb).trans HC.o;have hnw:=hnx.size;have HR:=zh (And.intro L6 (And.intro hnx (And.intro hpl (And.intro SZ hgd))));clear L6 hnx hpl SZ hgd
  by_cases hlt:k < s.length
  ·obtain⟨T,hT⟩:∃T,S.extract k s.length=T:=⟨_,rfl⟩
   have OA :(⟨(s.drop k).toArray⟩:ByteArray)=T:=by
    rw[<-hT,<-HS.o.1,gC]
    congr 2
    rw[qD (by rw[dQ];exact bE _)]
   have HT:=zh OA;clear OA
   gi_wp2_with fail
   rw[<-HT.o];refine⟨HF.o.2 _,(lC HF.o.1 (Cm wr (s.drop k) (by rw[dQ];omega))).mono ?_⟩;rintro e w2 ⟨r,rfl,hr0,hk2⟩;rw[HT.o];have hgs:=qN (s:=s.drop k) (λe=>by
    have:=ek List.length e;rw[dQ]at this;simp at this;omega)
   have KF:=(uY (s.drop k)).1;rw[dQ]at KF;obtain⟨m,hm⟩:∃m,cP (s.drop k)=m:=⟨_,rfl⟩;rw[hm]at hgs hr0 KF ⊢
   have P2:=HJ.o _ _ _ none HR.o.1 hk2.L_ (λ_ h=>by cases h);have Rv:=HR.o.2.1.trans (hk2.below (B:=n₀) (by omega) (by simp));have WQ:w2.cell? ⟨b,0,none⟩=some (.string S):=(Rv.cell (p:=⟨b,0,none⟩) hb).trans HC.o
   by_cases hm0:m=0
   ·subst hm0
    rw[aE rfl]at hgs;have HG:=zh (show fB s=false by rw[HR.o.2.2.2.2,hgs]);obtain⟨fn,tmps,assign,body,hy,hR⟩:=HY.o _ (k,0) w2 P2 (by have:=HR.o.2.2.1;omega);have gH:=zh hR;unfold Ae at hy
    dsimp only at hy
    rw[show((0:Nat):Int)=0 from rfl]at hy;have hn2:=n - 1;clear hR hgs hr0 P2 hm hk2
    gi_wp2_with fail
    refine gH.o.mono ?_;rintro e W3 (⟨rfl,L7,hk3⟩ | ⟨rfl,DA⟩)
    ·gi_wp2
     refine bD (jR rfl _ _ _) rfl ?_;exact⟨⟨_,rfl⟩,.inl ⟨_,λh=>absurd rfl (h (k,0) (by simp)),L7⟩⟩
    ·gi_wp2
     refine bD (jR rfl _ _ _) rfl ?_;exact⟨⟨_,rfl⟩,.inr ⟨_,λ_=>HG.o,DA⟩⟩
   ·have hr1:r≠0:=by have:=hr0 hm0;omega
    rw[aj hm0,List.drop_drop]at hgs;have HG:=zh (show fB s=fB (s.drop (k+m))by rw[HR.o.2.2.2.2,hgs]);obtain⟨fn,tmps,assign,body,hy,hR⟩:=HY.o _ (k,r) w2 P2 (by have:=HR.o.2.2.1;omega);have gH:=zh hR;have O_:=zh hr1;have wG:=zh Rv;unfold Ae at hy;have hn2:=n - 1;have sZ:((m:Int)==0)=false:=by simpa using hm0
    have hwk:IntKind.i64.wrap ((k:Int)+m)=((k+m:Nat):Int):=by rw[IntWalk.i64_in _ (by omega)];omega
    have Wu:¬(65535:Int) < ((k+m:Nat):Int):=by omega
    clear hR hgs hr0 P2 hm hk2 hr1 Rv
    gi_wp2_with fail
    refine gH.o.mono ?_;rintro e W3 (⟨rfl,L7,hk3⟩ | ⟨rfl,DA⟩)
    ·gi_wp2
     go_roundw
     case rel=>exact⟨k+m,by omega,by go_num,pre++ [(k,r)],L7,wG.o.trans hk3,by rw[bI];have:=HR.o.2.2.1;simp;omega,λx hx=>by
      rcases List.mem_append.1 hx with hx | hx
      ·exact HR.o.2.2.2.1 x hx
      ·obtain rfl:=List.mem_singleton.1 hx
       exact O_.o,HG.o⟩
     case measure=>simp[intOf];omega
    ·gi_wp2
     refine bD (jR rfl _ _ _) rfl ?_;refine⟨⟨_,rfl⟩,.inr ⟨_, ?_,DA⟩⟩;rintro⟨x,hx,h0⟩
     rcases List.mem_append.1 hx with hx | hx
     ·exact absurd h0 (HR.o.2.2.2.1 x hx)
     ·obtain rfl:=List.mem_singleton.1 hx
      exact absurd h0 O_.o
  ·obtain rfl:k=s.length:=by omega
   gi_wp2_with fail
   go_end0
   exact⟨⟨_,rfl⟩,.inl ⟨_,λ_=>by rw[HR.o.2.2.2.2,List.drop_length];rfl,HR.o.1⟩⟩

attribute [local go_sem] Oper.semAt_some

theorem wN (F:Fence)(n:Nat)(hF:F.plain=Fence.wide)(hf:F.fn 186)(hro:F.round=none)(hn:1<=n)(b n₀:Nat)(s:aG)(hs:s.length<=60000)(w:au)(hn₀:n₀<=w.heap.size)(hb:b < n₀)(hc:w.cell? ⟨b,0,none⟩=some (.string ⟨s.toArray⟩)):
  SeqStopsK F n prog 186 #[.pointer (some ⟨b,0,none⟩)] Ae (Below n₀) (Ky s) (Kx s) (s.length+1) w:=λl J Jx W hW P3 _ hY h0=>
 Cl F n hF hf hro hn l b n₀ s hs W J Jx P3 (cH hn₀ hW.size) hb hY ((hW.cell (p:=⟨b,0,none⟩) (kB hb hn₀)).trans hc) h0
theorem EB (F:Fence)(n:Nat)(hf:F.fn 179)(hro:F.round=none)(S:ByteArray)(w:au):
  CallsIn F n prog 179 #[.string S] w λe w' =>e= .returned (.func (.func 186) #[] #[.pointer (some ⟨w.heap.size,0,none⟩)])/\w' =w.alloc (.cells #[.string S] 9):=by
 refine callsIn_of_wp func179 rfl hf ?_ hro;simp only[ntmps179,oq,du,dR,Nat.reduceAdd,Nat.reduceSub,xE,xD,xC,xB,jD,jS]
 gi_wp2
 go_ret;exact⟨rfl,rfl⟩
/-- What Wrong answers. -/
def tN (w:au)(s:aG)(e:Ending)(w' :au):Prop:=∃z:Int,e= .returned (.int .i64 z)/\(0<=z↔fB s=false)/\ae w w' []
theorem uT {n N D:Nat}{w W9:au}{t:Array Value}{s:aG}{z:Int}(h2:t.getD 2 undef= .pointer (some ⟨N,0,none⟩))(q:Row W9 N 3 #[.int .i64 z])(hD:N < D)(Up:w.heap.size<=D)(hK:W9.heap[D]? =some (.deferred (some [])))(hk:ae w W9 [])(hz:0<=z↔fB s=false):
  bodyPostM Fence.wide n prog Tryz.f169 (tN w s) Exit.ret {tmps:=t,defers:= [{target:= .collected D,args:= #[]}]} W9:=by
 refine⟨by simp,.inl ⟨_,_,rfl,run_takeDeferred hK, ?_⟩⟩;have kp:ae W9 (W9.putObj D (.deferred none)) [D]:=ae.fY (grownBy_putObj' W9 D _);have z1:=q.keep kp (by simp;omega);have c0:=z1.cell 0;rw[ou]at h2;simp at c0;refine⟨.int .i64 z, ?_,z,rfl,hz,hk.trans kp (λy hy hlt=>by simp at hy;omega)⟩;simp[results,results169,go_sem,h2,c0]
theorem Gs {W W' :au}{row:Option Nat}{g:Nat}{t:TypeId}{cs:Array Value}(h:Row W g t cs)(hg:W.grownBy W' row)(hr:∀r,row=some r->r≠g):Row W' g t cs:=
 h.keep (ae.fY hg) (λhm=>hr g (by simpa using hm) rfl)
theorem EA (n:Nat)(hn:4<=n)(w:au)(s:aG)(hs:s.length<=60000):CallsIn Fence.wide n prog 169 #[.string ⟨s.toArray⟩] w (tN w s):=by
 have h1:1<=n:=by omega
 have hro:Fence.wide.round=none:=rfl;obtain⟨S,hS⟩:∃S:ByteArray,(⟨s.toArray⟩:ByteArray)=S:=⟨_,rfl⟩;have HS:=zh hS;rw[hS];clear hS;refine callsIn_of_wp_marks func169 rfl trivial ?_ hro;simp only[ntmps169,oq,du,dR,Nat.reduceAdd,Nat.reduceSub,xE,xD,xC,xB,jD,jS]
 gi_wp2_with fail
 obtain⟨W0,aV⟩:∃W0,w.alloc (.cells #[.int .i64 0] 3)=W0:=⟨_,rfl⟩;have q0:Row W0 w.heap.size 3 #[.int .i64 0]:=by rw[<-aV];exact Row.new _ _ _
 have k0:ae w W0 []:=by rw[<-aV];exact ae.alloc _ _
 have s0:W0.heap.size=w.heap.size+1:=by rw[<-aV];simp
 rw[aV];refine⟨trivial,(EB _ _ trivial rfl S W0).mono ?_⟩;rintro e w1 ⟨rfl,rfl⟩;obtain⟨W2,kq⟩:∃W2,W0.alloc (.cells #[.string S] 9)=W2:=⟨_,rfl⟩;have q2:Row W2 W0.heap.size 9 #[.string S]:=by rw[<-kq];exact Row.new _ _ _
 have k2:ae W0 W2 []:=by rw[<-kq];exact ae.alloc _ _
 have s2:W2.heap.size=w.heap.size+2:=by rw[<-kq];simp;omega
 rw[kq];have HQ:=zh (And.intro (q0.keeps k2) (And.intro q2 (And.intro (k0.ah k2) (And.intro s0 s2))));have c2:=q2.cell 0;simp only[cg,bU]at c2;clear aV kq q0 q2 k0 k2 s0 s2
 gi_wp2_with fail
 refine wpIn_rangeFunc_ownG hro h1 (gf:=186) (lb:= #[.pointer (some ⟨W0.heap.size,0,none⟩)]) rfl trivial (enters_of func186 (by kernel_rfl) rfl)
  (wN Fence.wide (n - 1) rfl trivial hro (by omega) W0.heap.size W2.heap.size s hs W2 (bE _) (by have:=HQ.o.2.2.2;omega) (by rw[HS.o];exact c2)) belowK_t (belowK_b (bE _)) (Below.refl _ _) (λ_=>rfl)
  (λpre W=>(∀x∈pre,x.2≠0)/\Below W2.heap.size W2 W)
  (λc pre W=>c= .ret/\(∃x∈pre,x.2=0)/\∃z:Int,0<=z/\Row W w.heap.size 3 #[.int .i64 z]/\ae W2 W [w.heap.size])
  (OwnFrom.and (ownFrom_pure _ (λpre:List (Nat×Nat)=>∀x∈pre,x.2≠0)) (ownFrom_below (bE _) (bE _)))
  (λc pre A B row hs hg hr=>by
   obtain⟨h1,h2,z,h3,h4,h5⟩:=hs;exact⟨h1,h2,z,h3,Gs h4 hg (λr e he=>by have:=(hr r e).1;have:=HQ.o.2.2.2;omega),h5.trans (ae.fY hg) (λy hy hlt=>by have:=(hr y (by simpa using hy)).1;have:=HQ.o.2.2.2;omega)⟩)
  ⟨λx hx=>(by cases hx),Below.refl _ _⟩
  (λx=>{tmps:= #[.string S,undef,.pointer (some ⟨w.heap.size,0,none⟩),.int .i64 ((x.1:Nat):Int),.int .i32 ((x.2:Nat):Int),.string S,.func (.func 186) #[] #[.pointer (some ⟨W0.heap.size,0,none⟩)],.int .i64 ((x.1:Nat):Int),.int .i32 ((x.2:Nat):Int),undef,undef,undef],defers:= []}) ?assign ?body ?done ?stop
 case assign=>
  intro l x W K hK;unfold Ae
  gi_wp2
  exact hK
 case body=>
  rintro l pre x W ⟨hp,hB⟩ hlt;have Ej:ae W2 W []:=ae.sx hB;have g0:=HQ.o.1.keeps Ej;have e0:=g0.cell 0;have f0:=g0.frozen 0;simp only[cg,bU]at e0;have HP:=zh (And.intro hp (And.intro hB (And.intro Ej g0)));clear hp hB Ej g0
  by_cases hx:x.2=0
  ·have LD:(((x.2:Nat):Int)==0)=true:=by rw[hx];rfl
   have HX:=zh hx;clear hx
   gi_wp2_with fail
   have kk:ae W (W.setCell ⟨w.heap.size,0,none⟩ (.int .i64 ((x.1:Nat):Int))) [w.heap.size]:=ae.setCell _ _ _;refine⟨⟨kk.size,λk o wZ hk _=>(kk.block k (Array.getElem?_eq_some_iff.1 hk).1 (by have:=HQ.o.2.2.2;simp;omega)).trans hk⟩,rfl,⟨x,by simp,HX.o⟩,_,Int.natCast_nonneg _,HP.o.2.2.2.store 0 _,(HP.o.2.2.1.weaken (T:= [w.heap.size]) (by simp)).trans kk (λy hy _=>hy)⟩
  ·have LD:(((x.2:Nat):Int)==0)=false:=by simpa using hx
   have HX:=zh hx;clear hx
   gi_wp2_with fail
   exact⟨KeepsFrom.refl _ _,Below.refl _ _,λy hy=>by
    rcases List.mem_append.1 hy with hy | hy
    ·exact HP.o.1 y hy
    ·obtain rfl:=List.mem_singleton.1 hy
     exact HX.o,HP.o.2.1⟩
 case done=>
  rintro D ys WA hD hys ⟨hp,hB⟩ hK;have hg:=hys hp;have Ej:ae W2 WA []:=ae.sx hB;have g0:=HQ.o.1.keeps Ej;have e0:=g0.cell 0;have f0:=g0.frozen 0;simp only[cg,bU]at e0;have HP:=zh (And.intro hg (And.intro Ej (And.intro g0 (And.intro hK hD))));clear hg Ej g0 hK hp hB hys
  gi_wp2_with fail
  have kk:ae WA (WA.setCell ⟨w.heap.size,0,none⟩ (.int .i64 (-1))) [w.heap.size]:=ae.setCell _ _ _;have hsz:=HQ.o.2.2.2;have hD:=HP.o.2.2.2.2;refine uT rfl (HP.o.2.2.1.store 0 _) (by omega) (by omega) ?_ (((HQ.o.2.2.1.ah HP.o.2.1).weaken (T:= [w.heap.size]) (by simp)).trans kk (λy hy _=>hy) |>.weaken (λy hy hlt=>by simp at hy;omega)) ⟨λh=>by omega,λh=>by rw[HP.o.1]at h;cases h⟩;exact(kk.block D (Array.getElem?_eq_some_iff.1 HP.o.2.2.2.1).1 (by simp;omega)).trans HP.o.2.2.2.1
 case stop=>
  rintro D c pre WA hD hst ⟨rfl,hx,z,hz,hr,hk⟩ hK
  gi_wp2_with fail
  exact uT rfl hr (by have:=HQ.o.2.2.2.2;omega) (by have:=HQ.o.2.2.2.2;omega) hK (HQ.o.2.2.1.trans hk (λy hy hlt=>by simp at hy;omega)) ⟨λ_=>hst hx,λ_=>hz⟩
theorem Ck (w:au)(s:aG)(hs:s.length<=60000):Calls prog 169 #[.string ⟨s.toArray⟩] w (tN w s):=
 callsIn_wide.1 (EA 4 (by omega) w s hs)
/-- What Check answers. -/
def oU (s:aG):Int:=if fB s=true then 0 else 220
theorem uZ (w:au)(s:aG)(hs:s.length<=60000):Calls prog 157 #[.string ⟨s.toArray⟩] w λe w' =>e= .returned (.int .i64 (oU s))/\ae w w' []:=by
 obtain⟨S,hS⟩:∃S:ByteArray,(⟨s.toArray⟩:ByteArray)=S:=⟨_,rfl⟩;have HS:=zh hS;rw[hS];clear hS
 go_enter func157,ntmps157
 go_wp2_with fail
 rw[<-HS.o];refine(Ck w s hs).mono ?_;rintro e w1 ⟨z,rfl,hz,hk⟩;rw[HS.o];have HK:=zh hk;clear hk
 by_cases h0:0<=z
 ·have HG:=zh (hz.1 h0)
  clear hz
  go_wp2_with fail
  go_ret;exact⟨by unfold oU;rw[HG.o];rfl,HK.o⟩
 ·have HG:=zh (show fB s=true by
   cases h:fB s with
   | true=>rfl
   | false=>exact absurd (hz.2 h) h0)
  clear hz
  go_wp2_with fail
  go_ret;exact⟨by unfold oU;rw[HG.o];rfl,HK.o⟩
end Go.Proofs.YtahbikfbjenfpaaGreatDoor
