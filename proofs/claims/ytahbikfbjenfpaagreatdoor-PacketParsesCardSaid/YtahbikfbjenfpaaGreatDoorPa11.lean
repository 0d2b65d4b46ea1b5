/- Package topic: the levels of a filter, one by one (an iterator). Package topic: Filter. -/
import Derived.Test.YtahbikfbjenfpaaGreatDoorPa10
import Derived.RangeFuncKeeps
set_option maxHeartbeats 4000000
set_option maxRecDepth 100000
namespace Go.Proofs.YtahbikfbjenfpaaGreatDoor
open Tryz Go.RowKit Go.Shelf

attribute [local go_sem] Oper.semAt_some

/-- What a round leaves alone: all below n₀ and all cells, but for blocks of S. -/
structure wI (n₀:Nat)(S:List Nat)(W W' :au):Prop where
 os:W'.os=W.os
 tape:W'.tape=W.tape
 output:W'.output=W.output
 size:W.heap.size<=W'.heap.size
 block:∀k,k < n₀->k∉S->W'.heap[k]? =W.heap[k]?
 same:∀(k:Nat) (cs:Array Value) (t:TypeId) (d:Nat×Nat),k∉S->W.heap[k]? =some (.cells cs t d)->W'.heap[k]? =some (.cells cs t d)
theorem wI.refl (n₀:Nat)(S:List Nat)(W:au):wI n₀ S W W:=⟨rfl,rfl,rfl,bE _,λ_ _ _=>rfl,λ_ _ _ _ _ h=>h⟩
theorem wI.t {n₀:Nat}{S:List Nat}{A B C:au}(h:wI n₀ S A B)(k:wI n₀ S B C):wI n₀ S A C:=
 ⟨k.os.trans h.os,k.tape.trans h.tape,k.output.trans h.output,cH h.size k.size,λi hi hS=>(k.block i hi hS).trans (h.block i hi hS),λi cs t d hS hc=>k.same i cs t d hS (h.same i cs t d hS hc)⟩
theorem wI.put {n₀:Nat}{S:List Nat}{w:au}(hn:n₀<=w.heap.size)(W:au)(l:Nat)(o o' :Obj)(hl:w.heap.size<=l)(h:W.heap[l]? =some o)(hc:o.isCells=false)(hw:o.isWalk=false):wI n₀ S W (W.putObj l o'):=
 have b:=belowK_b hn W l o o' hl h hc hw
 ⟨b.os,b.tape,b.output,b.size,λk hk _=>b.block k hk,λk cs t d _ hk=>by
  by_cases e:k=l
  ·subst e
   rw[h]at hk
   cases hk
   cases hc
  ·exact(World.putObj_heap_other e).trans hk⟩
theorem wI.of {n₀:Nat}{S:List Nat}{W W' :au}(h:ae W W' S)(hn:n₀<=W.heap.size):wI n₀ S W W' :=
 ⟨h.os,h.tape,h.output,h.size,λk hk hS=>h.block k (kB hk hn) hS,λk _ _ _ hS hk=>(h.block k (Array.getElem?_eq_some_iff.1 hk).1 hS).trans hk⟩
theorem wI.cell {n₀:Nat}{S:List Nat}{W W' :au}(h:wI n₀ S W W'){p:Addr}(hp:p.block < n₀)(hS:p.block∉S):W'.cell? p=W.cell? p:=World.cell?_of_block (h.block _ hp hS)
/-- Levels, each with whether it is the last one. -/
def mB (L:List aG):List (aG×Bool):=(List.range L.length).map λi=>(L.getD i [],i+1==L.length)
def D6 (x:aG×Bool):Array Value:= #[.string ⟨x.1.toArray⟩,.bool x.2]
theorem mS (L:List aG):(mB L).length=L.length:=by simp[mB]
theorem vk {L:List aG}{k:Nat}(h:k < L.length):(mB L)[k]'(by rw[mS];exact h)=(L[k],k+1==L.length):=by
 simp[mB,List.getD_eq_getElem?_getD,List.getElem?_eq_getElem h]
theorem EG {L:List aG}{k:Nat}(h:k < L.length):(mB L).take (k+1)=(mB L).take k++ [(L[k],k+1==L.length)]:=by
 rw[hO (by rw[mS];exact h),vk h]
theorem Jq {L:List aG}{k:Nat}(h:k < L.length):(IW L)[k]? =some (.string ⟨L[k].toArray⟩):=by
 unfold IW;rw[cg];have:=pJ (mE) (l:=L) h (j:=0) (by omega);rw[iO,fj]at this;rw[this];rfl
theorem Al (F:Fence)(n:Nat)(hF:F.plain=Fence.wide)(hf:F.fn 154)(hro:F.round=none)(hn:1<=n)(l b b2 n₀:Nat)(L:List aG)(hL:L.length<=60000)(W:au)(J Jx:List (aG×Bool)->au->Prop)
  (_hn₀:n₀<=W.heap.size) (S:List Nat) (hb:b < n₀/\b∉S) (hb2:b2 < n₀/\b2∉S)
  (OC:∀x∈L,x.length<=60000) (hY:∀pre x W1,J pre W1->pre.length < L.length+1->x.1.length<=60000->YieldAt F (n - 1) prog l (D6 x) W1 λe W' =>
   (e= .returned (.bool true)/\J (pre++ [x]) W' /\wI n₀ S W1 W')\/(e= .returned (.bool false)/\Jx (pre++ [x]) W'))
  (hc:W.cell? ⟨b,0,none⟩=some (.slice (some ⟨b2,0,none⟩) L.length L.length)) (hr:Row W b2 9 (IW L)) (h0:J [] W):
  CallsIn F n prog 154 #[.func (.yield l) #[] #[],.pointer (some ⟨b,0,none⟩)] W λe W' =>(∃v,e= .returned v)/\
   ((∃ys,ys=mB L/\J ys W')\/(∃pre,pre <+:mB L/\Jx pre W')):=by
 have hfn:∀f,F.fn f:=λf=>by
  have:F.plain.fn f:=by rw[hF];trivial
  exact this
 have HF:=zh (And.intro hF hfn);have HY:=zh hY;have HC:=zh (And.intro hc hr);have HL:=zh hL;have cb:W.cell? ⟨b,0,none⟩=some (.slice (some ⟨b2,0,none⟩) L.length L.length):=hc;clear hfn hY hc hr hL;refine callsIn_of_wp func154 rfl hf ?_ hro;simp only[ntmps154,oq,du,dR,Nat.reduceAdd,Nat.reduceSub,xE,xD,xC,xB,jD,jS]
 gi_wp2
 clear cb
 gi_loopw [7] (λi wr=>∃k:Nat,k<=L.length/\i= .int .i64 k/\J ((mB L).take k) wr/\wI n₀ S W wr) (λi _=>L.length - (intOf i).toNat)
 case atStart=>exact⟨0,by omega,rfl,by rw[dg];exact h0,wI.refl _ _ _⟩
 case round=>
  obtain⟨k,hk,rfl,L6,hnx⟩:=hrel;have vZ:=HL.o;have cb:wr.cell? ⟨b,0,none⟩=some (.slice (some ⟨b2,0,none⟩) L.length L.length):=(hnx.cell (p:=⟨b,0,none⟩) hb.1 hb.2).trans HC.o.1
  by_cases hlt:k < L.length
  ·have cx:wr.cell? ⟨b2,k,none⟩=some (.string ⟨L[k].toArray⟩):=by
    rw[hnx.cell (p:=⟨b2,k,none⟩) hb2.1 hb2.2,HC.o.2.cell,Jq hlt]
   obtain⟨x,hx⟩:∃x,L[k]=x:=⟨_,rfl⟩;obtain⟨lb,hlb⟩:∃lb:Bool,(k+1==L.length)=lb:=⟨_,rfl⟩;rw[hx]at cx;have Uv :((k:Int)==(L.length:Int) - 1)=lb:=by
    rw[<-hlb,lP];simp;omega
   have NW:IntKind.i64.wrap ((L.length:Int) - 1)=(L.length:Int) - 1:=IntWalk.i64_in _ (by omega);have HN:=zh (show(mB L).take (k+1)=(mB L).take k++ [(x,lb)]by rw[EG hlt,hx,hlb]);obtain⟨fn,tmps,assign,body,hy,hR⟩:=HY.o _ (x,lb) wr L6 (by rw[dq,mS];omega) (by rw[<-hx];exact OC _ (fS hlt));have gH:=zh (And.intro hR hnx);unfold D6 at hy
   dsimp only at hy
   have hn2:=n - 1;clear hR hnx L6 hx hlb
   gi_wp2_with fail
   refine gH.o.1.mono ?_;rintro e W3 (⟨rfl,L7,hk3⟩ | ⟨rfl,DA⟩)
   ·rw[<-HN.o]at L7
    have Ny:=zh (And.intro L7 (gH.o.2.t hk3));clear L7 hk3
    gi_wp2
    go_roundw
    case rel=>exact⟨k+1,by omega,by go_num,Ny.o.1,Ny.o.2⟩
    case measure=>simp[intOf];omega
   ·rw[<-HN.o]at DA
    have Ny:=zh DA;clear DA
    gi_wp2
    refine bD (jR rfl _ _ _) rfl ?_;exact⟨⟨_,rfl⟩,.inr ⟨_,List.take_prefix _ _,Ny.o⟩⟩
  ·obtain rfl:k=L.length:=by omega
   have Ny:=zh (show J (mB L) wr by rwa [qD (by rw[mS];exact bE _)]at L6);clear L6
   gi_wp2_with fail
   go_end0
   exact⟨⟨_,rfl⟩,.inl ⟨_,rfl,Ny.o⟩⟩
/-- A level of a bounded length. -/
abbrev Qc:={x:aG×Bool // x.1.length<=60000}
theorem vm (F:Fence)(n:Nat)(hF:F.plain=Fence.wide)(hf:F.fn 154)(hro:F.round=none)(hn:1<=n)(b b2 n₀:Nat)(L:List aG)(hL:L.length<=60000)(OC:∀x∈L,x.length<=60000)(w:au)(hn₀:n₀<=w.heap.size)(S:List Nat)(hb:b < n₀/\b∉S)(hb2:b2 < n₀/\b2∉S)
  (hc:w.cell? ⟨b,0,none⟩=some (.slice (some ⟨b2,0,none⟩) L.length L.length)) (hr:Row w b2 9 (IW L)):
  SeqStopsK F n prog 154 #[.pointer (some ⟨b,0,none⟩)] (λx:Qc=>D6 x.1) (wI n₀ S) (λys=>ys.map (λx=>x.1)=mB L) (λpre=>pre.map (λx=>x.1) <+:mB L) (L.length+1) w:=λl J Jx W hW _ _ hY h0=>by
 refine(Al F n hF hf hro hn l b b2 n₀ L hL W (λys W=>∃zs:List Qc,zs.map (λx=>x.1)=ys/\J zs W) (λys W=>∃zs:List Qc,zs.map (λx=>x.1)=ys/\Jx zs W) (cH hn₀ hW.size) S hb hb2 OC ?_ ((hW.cell (p:=⟨b,0,none⟩) (kB hb.1 hn₀)).trans hc) (hr.below hW (kB hb2.1 hn₀)) ⟨[],rfl,h0⟩).mono ?_
 ·rintro pre x W1 ⟨zs,rfl,h2⟩ hl hx
  obtain⟨fn,tmps,assign,body,hy,hR⟩:=hY zs ⟨x,hx⟩ W1 h2 (by simpa using hl);refine⟨fn,tmps,assign,body,hy,hR.mono ?_⟩;rintro e W' (⟨h1,h2,h3⟩ | ⟨h1,h2⟩)
  ·exact .inl ⟨h1,⟨zs++ [⟨x,hx⟩],by simp,h2⟩,h3⟩
  ·exact .inr ⟨h1,⟨zs++ [⟨x,hx⟩],by simp,h2⟩⟩
 ·rintro e W' ⟨h1,⟨ys,h2,zs,h3,h4⟩ | ⟨pre,h2,zs,h3,h4⟩⟩
  ·exact⟨h1,.inl ⟨zs,h3.trans h2,h4⟩⟩
  ·exact⟨h1,.inr ⟨zs,by show zs.map (λx=>x.1) <+:mB L;rw[h3];exact h2,h4⟩⟩
theorem Ak (F:Fence)(n:Nat)(hf:F.fn 116)(hro:F.round=none)(A:Option Addr)(m c:Nat)(w:au):
  CallsIn F n prog 116 #[.slice A m c] w λe w' =>e= .returned (.func (.func 154) #[] #[.pointer (some ⟨w.heap.size,0,none⟩)])/\w' =w.alloc (.cells #[.slice A m c] 27):=by
 refine callsIn_of_wp func116 rfl hf ?_ hro;simp only[ntmps116,oq,du,dR,Nat.reduceAdd,Nat.reduceSub,xE,xD,xC,xB,jD,jS]
 gi_wp2
 go_ret;exact⟨rfl,rfl⟩

attribute [local go_sem] Oper.semAt_some

theorem EH (x y:aG)(l:List aG):mB (x::y::l)=(x,false)::mB (y::l):=by
 unfold mB;rw[du,List.range_succ_eq_map,eu,List.map_map]
 congr 1
 refine zX λi hi=> ?_
 simp only[Function.comp];rw[show Nat.succ i=i+1 from rfl,List.getD_cons_succ]
 congr 1
 rw[lP];simp
theorem vl (L:List aG):Ah L=(mB L).all λx=>yz x.1 x.2:=by
 induction L with
 | nil=>rfl
 | cons x L ih=>
  cases L with
  | nil=>simp[Ah,mB]
  | cons y l=>rw[EH,List.all_cons,<-ih];rfl
/-- What a function of one truth answers. -/
theorem ur {n N D:Nat}{w W9:au}{t:Array Value}{B:Bool}(h2:t.getD 2 undef= .pointer (some ⟨N,0,none⟩))(q:Row W9 N 4 #[.bool B])(hD:N < D)(Up:w.heap.size<=D)(hK:W9.heap[D]? =some (.deferred (some [])))(hk:ae w W9 []):
  bodyPostM Fence.wide n prog Tryz.f64 (aJ w B) Exit.ret {tmps:=t,defers:= [{target:= .collected D,args:= #[]}]} W9:=by
 refine⟨by simp,.inl ⟨_,_,rfl,run_takeDeferred hK, ?_⟩⟩;have kp:ae W9 (W9.putObj D (.deferred none)) [D]:=ae.fY (grownBy_putObj' W9 D _);have z1:=q.keep kp (by simp;omega);have c0:=z1.cell 0;rw[ou]at h2;simp at c0;refine⟨.bool B, ?_,rfl,hk.trans kp (λy hy hlt=>by simp at hy;omega)⟩;simp[results,results64,go_sem,h2,c0]
theorem KeepsFrom.xX {W W' :au}{S:List Nat}(h:ae W W' S)(B:Nat)(hS:∀x∈S,x < B):KeepsFrom B W W' :=⟨h.size,λk o hk h0 _=>(h.block k (Array.getElem?_eq_some_iff.1 h0).1 (λhm=>by have:=hS k hm;omega)).trans h0⟩
theorem Cq (n:Nat)(hn:4<=n)(w:au)(s:aG)(hs:s.length<=50000)(hm:lG w):CallsIn Fence.wide n prog 64 #[.string ⟨s.toArray⟩] w (aJ w (cD s)):=by
 have h1:1<=n:=by omega
 have hro:Fence.wide.round=none:=rfl;obtain⟨S,hS⟩:∃S:ByteArray,(⟨s.toArray⟩:ByteArray)=S:=⟨_,rfl⟩;have HS:=zh hS;have HM:=zh hm;rw[hS];clear hS hm;refine callsIn_of_wp_marks func64 rfl trivial ?_ hro;simp only[ntmps64,oq,du,dR,Nat.reduceAdd,Nat.reduceSub,xE,xD,xC,xB,jD,jS]
 gi_wp2_with fail
 obtain⟨W0,aV⟩:∃W0,w.alloc (.cells #[.bool false] 4)=W0:=⟨_,rfl⟩;have q0:Row W0 w.heap.size 4 #[.bool false]:=by rw[<-aV];exact Row.new _ _ _
 have k0:ae w W0 []:=by rw[<-aV];exact ae.alloc _ _
 have s0:W0.heap.size=w.heap.size+1:=by rw[<-aV];simp
 rw[aV];rw[<-HS.o];refine⟨trivial,(lC rfl (Aj W0 s (by omega) (HM.o.keeps k0))).mono ?_⟩;rintro e w1 ⟨rfl,rfl⟩;rw[HS.o];obtain⟨L,hL⟩:∃L,dH s=L:=⟨_,rfl⟩;have UI:L.length<=60000:=by rw[<-hL];have:=vn s;omega
 have OC:∀x∈L,x.length<=60000:=λx hx=>by rw[<-hL]at hx;have:=tq hx;omega
 rw[hL];obtain⟨W1,hW1⟩:∃W1,W0.alloc (.cells (IW L) 9)=W1:=⟨_,rfl⟩;have r1:Row W1 W0.heap.size 9 (IW L):=by rw[<-hW1];exact Row.new _ _ _
 have k1:ae W0 W1 []:=by rw[<-hW1];exact ae.alloc _ _
 have s1:W1.heap.size=W0.heap.size+1:=by rw[<-hW1];simp
 rw[hW1];have HH:=zh (And.intro q0 (And.intro k0 (And.intro s0 (And.intro r1 (And.intro k1 s1)))));clear aV hW1 q0 k0 s0 r1 k1 s1
 gi_wp2_with fail
 refine⟨trivial,(Ak _ _ trivial rfl _ _ _ W1).mono ?_⟩;rintro e w2 ⟨rfl,rfl⟩;obtain⟨W2,kq⟩:∃W2,W1.alloc (.cells #[.slice (some ⟨W0.heap.size,0,none⟩) L.length L.length] 27)=W2:=⟨_,rfl⟩;have r2:Row W2 W1.heap.size 27 #[.slice (some ⟨W0.heap.size,0,none⟩) L.length L.length]:=by rw[<-kq];exact Row.new _ _ _
 have k2:ae W1 W2 []:=by rw[<-kq];exact ae.alloc _ _
 have s2:W2.heap.size=w.heap.size+3:=by rw[<-kq];simp;have:=HH.o;omega
 rw[kq];have HQ:=zh (show Row W2 w.heap.size 4 #[.bool false]/\Row W2 W0.heap.size 9 (IW L)/\ae w W2 []/\W0.heap.size=w.heap.size+1/\W1.heap.size=w.heap.size+2/\W2.heap.size=w.heap.size+3 from
  ⟨(HH.o.1.keeps HH.o.2.2.2.2.1).keeps k2,HH.o.2.2.2.1.keeps k2,(HH.o.2.1.ah HH.o.2.2.2.2.1).ah k2,HH.o.2.2.1,by have:=HH.o;omega,s2⟩)
 have c2:=r2.cell 0;simp only[cg,bU]at c2;have HL:=zh hL;clear kq r2 k2 s2 HH hL
 gi_wp2_with fail
 refine wpIn_rangeFunc_ownG hro h1 (gf:=154) (lb:= #[.pointer (some ⟨W1.heap.size,0,none⟩)]) rfl trivial (enters_of func154 (by kernel_rfl) rfl)
  (vm Fence.wide (n - 1) rfl trivial hro (by omega) W1.heap.size W0.heap.size W2.heap.size L UI OC W2 (bE _) [] ⟨by have:=HQ.o.2.2.2;omega,by simp⟩ ⟨by have:=HQ.o.2.2.2;omega,by simp⟩ c2 HQ.o.2.1) wI.t (wI.put (bE _)) (Below.refl _ _) (λ_=>rfl)
  (λpre W=>(∀x∈pre,yz x.1.1 x.1.2=true)/\Below W2.heap.size W2 W)
  (λc pre W=>c= .ret/\(∃x∈pre,yz x.1.1 x.1.2=false)/\Row W w.heap.size 4 #[.bool false]/\ae W2 W [w.heap.size])
  (OwnFrom.and (ownFrom_pure _ (λpre:List Qc=>∀x∈pre,yz x.1.1 x.1.2=true)) (ownFrom_below (bE _) (bE _)))
  (λc pre A B row hs hg hr=>by
   obtain⟨h1,h2,h4,h5⟩:=hs;exact⟨h1,h2,Gs h4 hg (λr e he=>by have:=(hr r e).1;have:=HQ.o.2.2.2;omega),h5.trans (ae.fY hg) (λy hy hlt=>by have:=(hr y (by simpa using hy)).1;have:=HQ.o.2.2.2;omega)⟩)
  ⟨λx hx=>(by cases hx),Below.refl _ _⟩
  (λx=>{tmps:= #[.string S,undef,.pointer (some ⟨w.heap.size,0,none⟩),.string ⟨x.1.1.toArray⟩,.bool x.1.2,undef,.string S,.slice (some ⟨W0.heap.size,0,none⟩) L.length L.length,.func (.func 154) #[] #[.pointer (some ⟨W1.heap.size,0,none⟩)],.string ⟨x.1.1.toArray⟩,.bool x.1.2,undef,undef,undef,undef,undef,undef,undef,undef,undef,undef,undef,undef,undef,undef,undef,undef,undef],defers:= []}) ?assign ?body ?done ?stop
 case assign=>
  intro l x W K hK;unfold D6
  gi_wp2
  exact hK
 case body=>
  rintro l pre ⟨⟨x,lb⟩,hxl⟩ W ⟨hp,hB⟩ hlt;replace hxl:x.length<=60000:=hxl;have Ej:ae W2 W []:=ae.sx hB;have HP:=zh (And.intro hp (And.intro hB (And.intro Ej (HQ.o.1.keeps Ej))));clear hp hB Ej
  dsimp only
  obtain⟨X,hX⟩:∃X:ByteArray,(⟨x.toArray⟩:ByteArray)=X:=⟨_,rfl⟩;rw[hX];have eX:X.toList=x:=by rw[<-hX,Lib.toList_data]
  obtain⟨b1,h1⟩:∃b,(x== [43])=b:=⟨_,rfl⟩;obtain⟨b2,h2⟩:∃b,(x== [35])=b:=⟨_,rfl⟩;have MH:=zh (show yz x lb=(b1 || (b2 && lb) || !gT x)by unfold yz;rw[h1,h2]);have e1:(X.toList== [43])=b1:=by rw[eX];exact h1
  have e2:(X.toList== [35])=b2:=by rw[eX];exact h2
  have Qf:=zh hX;clear h1 h2 eX hX
  cases b1 with
  | true=>
   gi_wp2_with fail
   refine⟨trivial, ?_⟩
   gi_wp2_with fail
   exact⟨KeepsFrom.refl _ _,wI.refl _ _ _,λy hy=>by
    rcases List.mem_append.1 hy with hy | hy
    ·exact HP.o.1 y hy
    ·obtain rfl:=List.mem_singleton.1 hy
     exact(by rw[MH.o];rfl),HP.o.2.1⟩
  | false=>
   cases hbl:(b2 && lb)with
   | true=>
    have hb2:b2=true:=by cases b2 <;> simp at hbl ⊢
    have hlb:lb=true:=by cases lb <;> simp at hbl ⊢
    subst hb2 hlb;clear hbl
    gi_wp2_with fail
    refine⟨trivial, ?_⟩
    gi_wp2_with fail
    exact⟨KeepsFrom.refl _ _,wI.refl _ _ _,λy hy=>by
     rcases List.mem_append.1 hy with hy | hy
     ·exact HP.o.1 y hy
     ·obtain rfl:=List.mem_singleton.1 hy
      exact(by rw[MH.o];rfl),HP.o.2.1⟩
   | false=>
    rw[hbl]at MH
    cases b2 with
    | false=>
     clear hbl
     gi_wp2_with fail
     rw[<-Qf.o];refine⟨trivial,(λh=>by cases h),(lC (F:=Fence.wide.inRound l) rfl (q_ W x hxl)).mono ?_⟩;rintro e w5 ⟨rfl,iH⟩;rw[Qf.o];have tR:=zh iH;have g0:=HP.o.2.2.2.keeps iH;have e0:=g0.cell 0;have f0:=g0.frozen 0;simp only[cg,bU]at e0;have HG:=zh g0;clear iH g0
     cases Bs:gT x with
     | false=>
      have Mx:=zh Bs;clear Bs
      gi_wp2_with fail
      have hbb:=tR.o.below (B:=W2.heap.size) HP.o.2.1.size (by simp);exact⟨KeepsFrom.xX tR.o _ (by simp),wI.of tR.o HP.o.2.1.size,λy hy=>by
       rcases List.mem_append.1 hy with hy | hy
       ·exact HP.o.1 y hy
       ·obtain rfl:=List.mem_singleton.1 hy
        exact(by rw[MH.o,Mx.o];simp),HP.o.2.1.trans hbb⟩
     | true=>
      have Mx:=zh Bs;clear Bs
      gi_wp2_with fail
      have kk:ae w5 (w5.setCell ⟨w.heap.size,0,none⟩ (.bool false)) [w.heap.size]:=ae.setCell _ _ _;have k6:=(tR.o.weaken (T:= [w.heap.size]) (by simp)).trans kk (λy hy _=>hy);refine⟨⟨k6.size,λk o wZ hk _=>(k6.block k (Array.getElem?_eq_some_iff.1 hk).1 (by have:=HQ.o.2.2.2;simp;omega)).trans hk⟩,rfl,⟨⟨(x,lb),hxl⟩,by simp,by show yz x lb=false;rw[MH.o,Mx.o];simp⟩,HG.o.store 0 _,(HP.o.2.2.1.weaken (T:= [w.heap.size]) (by simp)).trans k6 (λy hy _=>hy)⟩
    | true=>
     have hlb:lb=false:=by cases lb <;> simp at hbl ⊢
     subst hlb;clear hbl
     gi_wp2_with fail
     rw[<-Qf.o];refine⟨trivial,(λh=>by cases h),(lC (F:=Fence.wide.inRound l) rfl (q_ W x hxl)).mono ?_⟩;rintro e w5 ⟨rfl,iH⟩;rw[Qf.o];have tR:=zh iH;have g0:=HP.o.2.2.2.keeps iH;have e0:=g0.cell 0;have f0:=g0.frozen 0;simp only[cg,bU]at e0;have HG:=zh g0;clear iH g0
     cases Bs:gT x with
     | false=>
      have Mx:=zh Bs;clear Bs
      gi_wp2_with fail
      have hbb:=tR.o.below (B:=W2.heap.size) HP.o.2.1.size (by simp);exact⟨KeepsFrom.xX tR.o _ (by simp),wI.of tR.o HP.o.2.1.size,λy hy=>by
       rcases List.mem_append.1 hy with hy | hy
       ·exact HP.o.1 y hy
       ·obtain rfl:=List.mem_singleton.1 hy
        exact(by rw[MH.o,Mx.o];simp),HP.o.2.1.trans hbb⟩
     | true=>
      have Mx:=zh Bs;clear Bs
      gi_wp2_with fail
      have kk:ae w5 (w5.setCell ⟨w.heap.size,0,none⟩ (.bool false)) [w.heap.size]:=ae.setCell _ _ _;have k6:=(tR.o.weaken (T:= [w.heap.size]) (by simp)).trans kk (λy hy _=>hy);refine⟨⟨k6.size,λk o wZ hk _=>(k6.block k (Array.getElem?_eq_some_iff.1 hk).1 (by have:=HQ.o.2.2.2;simp;omega)).trans hk⟩,rfl,⟨⟨(x,false),hxl⟩,by simp,by show yz x false=false;rw[MH.o,Mx.o];simp⟩,HG.o.store 0 _,(HP.o.2.2.1.weaken (T:= [w.heap.size]) (by simp)).trans k6 (λy hy _=>hy)⟩
 case done=>
  rintro D ys WA hD hys ⟨hp,hB⟩ hK;have hT:=zh (show Ah (dH s)=true by rw[HL.o,vl,<-hys,List.all_eq_true];intro y hy;obtain⟨z,hz,rfl⟩:=List.mem_map.1 hy;exact hp z hz);have Ej:ae W2 WA []:=ae.sx hB;have HP:=zh (And.intro Ej (And.intro hK hD));clear hp hB hK Ej hD
  gi_wp2_with fail
  rw[<-HS.o];refine⟨trivial,(lC rfl (xK WA s (by omega))).mono ?_⟩;rintro e w5 ⟨rfl,iH⟩;rw[HS.o];have g0:=(HQ.o.1.keeps HP.o.1).keeps iH;have e0:=g0.cell 0;have f0:=g0.frozen 0;simp only[cg,bU]at e0;have H5:=zh (And.intro g0 iH);clear g0 iH
  gi_wp2_with fail
  have kk:ae w5 (w5.setCell ⟨w.heap.size,0,none⟩ (.bool (gU s))) [w.heap.size]:=ae.setCell _ _ _;have hsz:=HQ.o.2.2.2;have hD:=HP.o.2.2;have Rn:cD s=gU s:=by unfold cD;rw[hT.o,Bool.and_true]
  rw[Rn];refine ur rfl (H5.o.1.store 0 _) (by omega) (by omega) ?_ ((((HQ.o.2.2.1.ah HP.o.1).ah H5.o.2).weaken (T:= [w.heap.size]) (by simp)).trans kk (λy hy _=>hy) |>.weaken (λy hy hlt=>by simp at hy;omega));have Td:=(H5.o.2.block D (Array.getElem?_eq_some_iff.1 HP.o.2.1).1 (by simp)).trans HP.o.2.1;exact(kk.block D (Array.getElem?_eq_some_iff.1 Td).1 (by simp;omega)).trans Td
 case stop=>
  rintro D c pre WA hD hst ⟨rfl,⟨x,hx,Um⟩,hr,hk⟩ hK;have Rn:cD s=false:=by
   unfold cD;have:Ah (dH s)=false:=by
    rw[HL.o,vl,List.all_eq_false];exact⟨x.1,hst.subset (List.mem_map.2 ⟨x,hx,rfl⟩),by rw[Um];exact Bool.false_ne_true⟩
   rw[this,xm]
  rw[Rn]
  gi_wp2_with fail
  exact ur rfl hr (by have:=HQ.o.2.2.2;omega) (by have:=HQ.o.2.2.2;omega) hK (HQ.o.2.2.1.trans hk (λy hy hlt=>by simp at hy;omega))
end Go.Proofs.YtahbikfbjenfpaaGreatDoor
