/- Arguments opened: bytes, a page. The law PacketParses. -/
import Derived.Test.YtahbikfbjenfpaaGreatDoorPa38
import Derived.Test.YtahbikfbjenfpaaGreatDoorPa2
import Derived.ProofKit
import Derived.Lib.SmallJoins
import Derived.Test.YtahbikfbjenfpaaGreatDoorPa40
import Derived.Test.YtahbikfbjenfpaaGreatDoorPa43
set_option maxHeartbeats 8000000
set_option maxRecDepth 100000
namespace Go.Proofs.YtahbikfbjenfpaaGreatDoor
open Go.ChangeShapes Go.WideShapes Go.RowKit Go.Joins

section
variable {H:Type} {enc:TypeId×Value->H} {W:au}

/-- Bytes that came in. -/
def IU (W:au)(A:Option Addr)(c:Nat)(l:aG):Prop:=
 (A=none->c=0)/\l.length<=c/\c<=maxLen/\cG W W.heap.size A (l.map bq)
theorem IU.bytes {A:Option Addr}{c:Nat}{l:aG}(h:IU W A c l)(hl:l.length<=140737488351232):Bytes W W.heap.size (.slice A l.length c) l:=
 ⟨A,c,rfl,h.2.1,h.1,h.2.2.1,hl,h.2.2.2⟩

theorem Ga:Tryz.prog.underlying 5=some (.int .u8):=by kernel_rfl
theorem FL:Tryz.prog.cellsOf 5=1:=by kernel_rfl

theorem zz {fuel:Nat}{v:Value}{x:DataW H×List MemPlace}(hf:DataW.trod enc Tryz.prog W 0 (λ_=>true) true fuel 32 [v]=some x):
  ∃A c l,v= .slice A l.length c/\IU W A c l:=by
 rcases open_ints fF Ga FL hf with⟨hcs,hx⟩ | ⟨a,len,cap,zs,hcs,_,hl,hm,hz,hx,hcell,Un⟩
 ·injection hcs with e
  subst e;exact⟨none,0, [],rfl,λ_=>rfl,bE _,by simp[maxLen],cG.nil _ _ _⟩
 ·injection hcs with e
  subst e;simp only[jF]at hz;have hlen:((zs.take len).map λn=>UInt8.ofNat n.toNat).length=len:=by simp;omega
  refine⟨some a,cap,(zs.take len).map (λn=>UInt8.ofNat n.toNat),by rw[hlen],⟨(λh=>by cases h),by rw[hlen];exact hl,hm,λhpos=> ?_⟩⟩;rw[xF,hlen]at hpos;obtain⟨ab,ao,spot⟩:=a;have hc0:=hcell 0 (by omega);have hspot:spot=none:=by simpa [Addr.add]using World.cell?_spot hc0
  subst hspot;have hlt:ab < W.heap.size:=by
   rcases eS ab W.heap.size with h | h
   ·exact h
   ·exfalso
    rw[Addr.add_lit]at hc0;simp[World.cell?,Array.getElem?_eq_none h]at hc0
  refine⟨ab,ao,rfl,hlt,λi u hu=> ?_⟩;have hi:i < len:=by
   rcases eS i len with h | h
   ·exact h
   ·rw[List.getElem?_eq_none (by simp;omega)]at hu;cases hu
  have hcj:=hcell i (by omega);rw[Addr.add_lit]at hcj;rw[hcj,<-hu];have hb:=range_u8 Un i;simp only[xx,List.getElem?_take,hi,jF];have e:zs[i]? =some (zs[i]'(by omega)):=rE (by omega);rw[e]at hb;rw[List.getD_eq_getElem?_getD,e];simp only[Option.getD_some,tg,bq]at hb ⊢
  congr 2
  simp only[z_];omega
theorem Dc {v:Value}{d:DataW H}{p:List MemPlace}(h:DataW.Trod enc Tryz.prog W 0 (λ_=>true) true 32 v d p)(hs:∃a len cap,v= .slice a len cap):∃A c l,v= .slice A l.length c/\IU W A c l:=by
 obtain⟨a,len,cap,rfl⟩:=hs;obtain⟨fuel,hf⟩:=h;exact zz hf
end
end Go.Proofs.YtahbikfbjenfpaaGreatDoor

namespace Go.Proofs.YtahbikfbjenfpaaGreatDoor
open Go.RowKit Go.Shelf

theorem NT {b:aG}{p:Pk}(h:fc b p)(hb:b.length<=5000):rl p/\1<=p.k/\p.k<=14:=by
 have hk:=bW.1 (bF h.1).1;refine⟨?_,hk⟩
 rcases b with _ | ⟨x,l⟩
 ·exact absurd h Eb
 ·obtain⟨s,_,_,_,_,h5,_,h7⟩:=bP h
  refine o6 (by rw[<-h5];exact(bF h.1).1) ?_ h7;rw[dQ];simp only[du]at hb;omega
/-- What Parse and the reference's Parse tell, and what is done with it. -/
structure Io (w W:au)(a b:Nat)(X Y:Array Value):Prop where
 k:ae w W []
 r1:Row W a 29 X
 r2:Row W b 29 Y
theorem Io.go {w W W' :au}{a b:Nat}{X Y:Array Value}(h:Io w W a b X Y)(hk:ae W W' []):Io w W' a b X Y:=⟨h.k.ah hk,h.r1.keeps hk,h.r2.keeps hk⟩
theorem tF (w:au)(A:Option Addr)(c:Nat)(l:aG)(hm:lG w)(hC:IU w A c l):Calls Tryz.prog 4 #[.slice A l.length c] w (aJ w true):=by
 have wM:=zh (show∀W,ae w W []->Calls Tryz.prog 10 #[] W (aJ W true)from λW hW=>Bm W (hm.keeps hW))
 by_cases hl:5000 < l.length
 ·have d1:decide ((l.length:Int) > 5000)=true:=bz (by omega)
  clear hm hC hl
  go_enter Tryz.func4,Tryz.ntmps4
  go_wp2_with fail
  refine(wM.o _ (ae.refl _ _)).mono ?_;rintro e w9 ⟨rfl,hk⟩
  go_wp2_with fail
  go_ret;exact⟨rfl,hk⟩
 have d1:decide ((l.length:Int) > 5000)=false:=aZ (by omega);have HL:=zh (show l.length<=5000 by omega);have VH:=zh (ug w (.slice A l.length c) l hm (by omega) (hC.bytes (by omega)));have qi:=zh (show∀W,ae w W []->Calls Tryz.prog 18 #[.slice A l.length c] W (Ik W l)from λW hW=>yH W A c l ⟨(hC.2.2.2.below (hW.below (bE _) (by simp))).mono hW.size,bE _,hC.2.1,hC.2.2.1⟩ (by omega));have uQ:=zh (show∀W,ae w W []->(convert 32 9 (.slice A l.length c)).run Tryz.prog W= .ok (.string ⟨l.toArray⟩) W from λW hW=>dO W W.heap.size A c l ((hC.2.2.2.below (hW.below (bE _) (by simp))).mono hW.size));have HM:=zh hm;clear hm hC hl
 go_enter Tryz.func4,Tryz.ntmps4
 go_wp2_with fail
 refine VH.o.mono ?_;rintro e w1 ⟨hk1,⟨p,sw,sc,sf,PU,rfl,hT⟩ | ⟨hno,rfl⟩⟩
 ·obtain⟨X,hX⟩:=qg.of hT.g
  have HX:=zh hX;rw[<-hX.v];have DX:=zh PU;have TL:=zh hT;clear hX PU hT
  go_wp2_with (refine aQ rfl (.tmp 3) (.tmp 16) rfl X cT w1 rfl HX.o.sz HX.o.z HX.o.one rfl rfl ?_;intro w2 hw2)
  refine zh ?_;have k2:ae w1 w2 []:=by rw[<-hw2];exact ae.alloc _ _
  have r2:Row w2 w1.heap.size 29 X:=by rw[<-hw2];exact Row.new _ _ _
  obtain⟨g,hg⟩:∃g,w1.heap.size=g:=⟨_,rfl⟩;rw[hg]at r2 ⊢
  have lN:=zh (hk1.ah k2);have O9:=zh r2;have Mu:=zh (TL.o.keeps k2);clear hw2 hg r2 k2 hk1 TL
  go_wp2_with fail
  refine(qi.o _ lN.o).mono ?_;rintro e w3 ⟨hk3,⟨q,zO,zR,zQ,hq,rfl,Ro⟩ | ⟨hno,_⟩⟩
  case inr=>exact absurd DX.o (hno p)
  obtain rfl:q=p:=hq.one DX.o;obtain⟨Y,hY⟩:=qg.of Ro.g;have HY:=zh hY;rw[<-hY.v];have TK:=zh Ro;have fK:=zh hk3;clear hY hq Ro hk3
  go_wp2_with (refine aQ rfl (.tmp 5) (.tmp 21) rfl Y cT w3 rfl HY.o.sz HY.o.z HY.o.one rfl rfl ?_;intro w4 yd)
  refine zh ?_;have k4:ae w3 w4 []:=by rw[<-yd];exact ae.alloc _ _
  have r4:Row w4 w3.heap.size 29 Y:=by rw[<-yd];exact Row.new _ _ _
  obtain⟨g4,Ou⟩:∃g,w3.heap.size=g:=⟨_,rfl⟩;rw[Ou]at r4 ⊢
  have HS:=zh (show Io w w4 g g4 X Y from⟨(lN.o.ah fK.o).ah k4,(O9.o.keeps fK.o).keeps k4,r4⟩);have TJ:=zh ((Mu.o.keeps fK.o).keeps k4);have VC:=zh (TK.o.keeps k4);have F4:=zh (NT DX.o HL.o);have O5:=zh (show Calls Tryz.prog 16 #[.agg X,.agg Y] w4 (aJ w4 true)from by
   have h:=mg q q sw sc sf zO zR zQ w4 TJ.o.g VC.o.g ⟨by have:=F4.o.1.wants.1;omega,by have:=F4.o.1.aF;omega,by have:=F4.o.1.fs.1;omega⟩;rw[bz rfl]at h;rw[HX.o.v,HY.o.v];exact h)
  have My:=zh (show∀W,ae w4 W []->Calls Tryz.prog 11 #[.agg X] W (iT W q)from λW hW=>by
   have h:=xV q sw sc sf W (TJ.o.g.keeps hW) F4.o.1 (HM.o.keeps (HS.o.k.ah hW)) (by have:=F4.o.2;omega) (by have:=F4.o.2;omega);rw[HX.o.v];exact h)
  clear yd Ou r4 k4 Mu TK O9 lN fK
  go_wp2_with (first | (refine bf (by kernel_rfl) rfl rfl HS.o.r1 Tryz.underlying29 rfl HX.o.sz ?_) | (refine bf (by kernel_rfl) rfl rfl HS.o.r2 Tryz.underlying29 rfl HY.o.sz ?_))
  refine O5.o.mono ?_;rintro e w5 ⟨rfl,iH⟩;replace HS:=zh (HS.o.go iH);have tR:=zh iH;clear iH O5
  go_wp2_with (first | (refine bf (by kernel_rfl) rfl rfl HS.o.r1 Tryz.underlying29 rfl HX.o.sz ?_) | (refine bf (by kernel_rfl) rfl rfl HS.o.r2 Tryz.underlying29 rfl HY.o.sz ?_))
  refine(My.o _ tR.o).mono ?_;intro e w6 hp;unfold iT at hp;rw[aE DX.o.1]at hp;obtain⟨v,rfl,hv,ko⟩:=hp;replace HS:=zh (HS.o.go ko);rw[DX.o.2]at hv;obtain⟨A1,c1,rfl,_,_⟩:=ck hv;have hs1:=dO w6 _ A1 c1 l (cG.tG hv);have hs2:=uQ.o _ HS.o.k;have heq:((⟨l.toArray⟩:ByteArray).toList==(⟨l.toArray⟩:ByteArray).toList)=true:=by simp
  clear hv ko My tR
  go_wp2_with fail
  refine(wM.o _ HS.o.k).mono ?_;rintro e w9 ⟨rfl,hk⟩;replace HS:=zh (HS.o.go hk);clear hk
  go_wp2_with fail
  go_ret;exact⟨rfl,HS.o.k⟩
 ·obtain⟨X,hX⟩:=qg.of (w:=w1) (p:=bN) (sw:= .slice none 0 0) (sc:= .slice none 0 0) (sf:= .slice none 0 0) (jz.empty rfl rfl rfl).g
  have HX:=zh hX;rw[show Value.agg si= .agg X from hX.v.symm];have gZ:=zh hno;clear hX hno
  go_wp2_with (refine aQ rfl (.tmp 3) (.tmp 16) rfl X cT w1 rfl HX.o.sz HX.o.z HX.o.one rfl rfl ?_;intro w2 hw2)
  refine zh ?_;have k2:ae w1 w2 []:=by rw[<-hw2];exact ae.alloc _ _
  have r2:Row w2 w1.heap.size 29 X:=by rw[<-hw2];exact Row.new _ _ _
  obtain⟨g,hg⟩:∃g,w1.heap.size=g:=⟨_,rfl⟩;rw[hg]at r2 ⊢
  have lN:=zh (hk1.ah k2);have O9:=zh r2;clear hw2 hg r2 k2 hk1
  go_wp2_with fail
  refine(qi.o _ lN.o).mono ?_;rintro e w3 ⟨hk3,⟨q,zO,zR,zQ,hq,_⟩ | ⟨_,rfl⟩⟩
  case inl=>exact absurd hq (gZ.o q)
  rw[show Value.agg cT= .agg X from HX.o.v.symm];have HY:=HX;have fK:=zh hk3;clear hk3
  go_wp2_with (refine aQ rfl (.tmp 5) (.tmp 21) rfl X cT w3 rfl HY.o.sz HY.o.z HY.o.one rfl rfl ?_;intro w4 yd)
  refine zh ?_;have k4:ae w3 w4 []:=by rw[<-yd];exact ae.alloc _ _
  have r4:Row w4 w3.heap.size 29 X:=by rw[<-yd];exact Row.new _ _ _
  obtain⟨g4,Ou⟩:∃g,w3.heap.size=g:=⟨_,rfl⟩;rw[Ou]at r4 ⊢
  have HS:=zh (show Io w w4 g g4 X X from⟨(lN.o.ah fK.o).ah k4,(O9.o.keeps fK.o).keeps k4,r4⟩);have O5:=zh (show Calls Tryz.prog 16 #[.agg X,.agg X] w4 (aJ w4 true)from by
   have h:=mg bN bN aN aN aN aN aN aN w4 (jz.empty rfl rfl rfl).g (jz.empty rfl rfl rfl).g (by simp[bN]);rw[bz rfl]at h;rw[HX.o.v];exact h)
  clear yd Ou r4 k4 O9 lN fK
  go_wp2_with (first | (refine bf (by kernel_rfl) rfl rfl HS.o.r1 Tryz.underlying29 rfl HX.o.sz ?_) | (refine bf (by kernel_rfl) rfl rfl HS.o.r2 Tryz.underlying29 rfl HY.o.sz ?_))
  refine O5.o.mono ?_;rintro e w5 ⟨rfl,iH⟩;replace HS:=zh (HS.o.go iH);clear iH O5
  go_wp2_with fail
  refine(wM.o _ HS.o.k).mono ?_;rintro e w9 ⟨rfl,hk⟩;replace HS:=zh (HS.o.go hk);clear hk
  go_wp2_with fail
  go_ret;exact⟨rfl,HS.o.k⟩
end Go.Proofs.YtahbikfbjenfpaaGreatDoor
