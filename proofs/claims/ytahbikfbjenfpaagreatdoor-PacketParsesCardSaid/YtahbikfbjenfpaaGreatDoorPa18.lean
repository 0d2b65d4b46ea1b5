/- The reference of packets: so many texts. -/
import Derived.Test.YtahbikfbjenfpaaGreatDoorPa7
import Derived.Test.YtahbikfbjenfpaaGreatDoorPa40
import Derived.Test.YtahbikfbjenfpaaGreatDoorPa55
set_option maxHeartbeats 2000000
set_option maxRecDepth 100000
namespace Go.Proofs.YtahbikfbjenfpaaGreatDoor
open Tryz Go.RowKit

def Ii (w:au)(n:Nat)(l:aG)(e:Ending)(w' :au):Prop:=ae w w' []/\match cJ n l with
 | none=>e= .returned (.tuple #[.slice none 0 0,.bool false])
 | some L=>∃A c,e= .returned (.tuple #[.slice A L.length c,.bool true])/\L.length<=c/\bw w' 9 1 fC A L
theorem t_:∀(n:Nat) (l:aG) (L:List aG),cJ n l=some L->L.length=n
 | 0,l,L,h=>by
  simp only[cJ,kY]at h;rw[<-h];rfl
 | n+1,l,L,h=>by
  simp only[cJ,cj,kY]at h;obtain⟨s,_,r,hr,rfl⟩:=h;rw[du,t_ n _ _ hr]
structure OP (w W:au)(n:Nat)(l:aG)(j:Nat)(v:Value)(L:List aG)(A:Option Addr)(c:Nat)(r:aG):Prop where
 o:Ir W w.heap.size v L
 b:lL W w.heap.size A c r
 len:L.length=j
 e:cJ n l=(cJ (n - j) r).map (L++ ·)
 k:ae w W []
theorem yD {n j:Nat}(h:j < n)(r:aG):cJ (n - j) r=(cQ r).bind λs=>(cJ (n - (j+1)) s.2).bind λq=>some (s.1::q):=by
 rw[show n - j=(n - (j+1))+1 by omega,cJ]
theorem yE (w:au)(A:Option Addr)(c n:Nat)(l:aG)(h:lL w w.heap.size A c l)(hn:n<=100):Calls prog 103 #[.slice A l.length c,.int .i64 n] w (Ii w n l):=by
 have HB:=zh h;clear h
 go_enter func103,ntmps103
 go_wp2_with fail
 go_loopw [0,6,7] (λb out i wr=>∃(j:Nat) (L:List aG) (A1:Option Addr) (c1:Nat) (r:aG),j<=n/\i= .int .i64 j/\b= .slice A1 r.length c1/\Hid (OP w wr n l j out L A1 c1 r)) (λ_ _ i _=>n - (intOf i).toNat)
 case atStart=>exact⟨0, [],A,c,l,by omega,rfl,rfl,zh ⟨⟨rfl,.inl ⟨rfl,rfl⟩⟩,HB.o,rfl,by simp,ae.refl _ _⟩⟩
 case round=>
  obtain⟨j,L,A1,c1,r,hj,rfl,rfl,HT⟩:=hrel
  by_cases hjn:j < n
  ·have HE:=zh (yD hjn r)
   go_wp2_with fail
   refine(mf _ w.heap.size A1 c1 r HT.o.b).mono ?_;rintro e w1 ⟨hk,hp⟩
   cases hX:cQ r with
   | none=>
    rw[hX]at hp;subst hp;have HN:=zh (show cJ n l=none by rw[HT.o.e,HE.o,hX];rfl);have HK:=zh (HT.o.k.ah hk);clear hX hk
    go_wp2_with fail
    go_ret2
    exact⟨HK.o,by rw[HN.o];rfl⟩
   | some sr=>
    obtain⟨s,r'⟩:=sr;rw[hX]at hp;obtain⟨A2,c2,rfl,hb2⟩:=hp;have HN:=zh (show cJ n l=(cJ (n - (j+1)) r').map ((L++ [s])++ ·)by
     rw[HT.o.e,HE.o,hX];show((cJ (n - (j+1)) r').bind λq=>some (s::q)).map (L++ ·)=_
     cases cJ (n - (j+1)) r' <;> simp)
    have HO:=zh (HT.o.o.keeps hk);have HK:=zh (And.intro (HT.o.k.ah hk) hb2);clear hX hk hb2;obtain⟨S,hS⟩:∃S:ByteArray,(⟨s.toArray⟩:ByteArray)=S:=⟨_,rfl⟩;have HS:=zh hS;rw[hS];clear hS;obtain⟨A3,c3,hu⟩:∃A3 c3,u6= .slice A3 L.length c3:=dn.slice HO.o;subst hu;obtain⟨Wb,fg⟩:∃Wb,w1.alloc (.cells #[.string S] 9)=Wb:=⟨_,rfl⟩;have kb:ae w1 Wb []:=by rw[<-fg];exact ae.alloc _ _
    have Er:=zh (show cG Wb Wb.heap.size (some ⟨w1.heap.size,0,none⟩) ([s].flatMap fC)from fJ (cs:= #[.string S]) (by rw[<-fg];exact Row.new _ _ _) (by rw[<-HS.o];rfl));have HA:=zh (And.intro (HO.o.keeps kb) (And.intro (HK.o.1.ah kb) (HK.o.2.keeps kb)));have hbs:w.heap.size<=Wb.heap.size:=HA.o.2.1.size;have wY:L.length<=100:=by have:=HT.o.len;omega
    have og:=zh wY;clear kb wY HO HK
    go_wp2_with (at_builtin;refine Hid.o ?_)
    refine zh ?_;refine eG zu mE rfl (.tmp 24) (.tmp 26) rfl w.heap.size (.slice A3 L.length c3) (some ⟨w1.heap.size,0,none⟩) 1 1 L [s] rfl rfl rfl HA.o.1 Er.o (by have:=og.o;simp;omega) hbs ?_;intro A7 c7 w7 l7 qq uq mq kf qu;have iV:∀g∈(Value.slice A3 L.length c3).ownBlock.toList,w.heap.size<=g:=λg hg=>(HA.o.1.rows g hg).1
    have H7:=zh (show OP w w7 n l (j+1) (.slice A7 l7.length c7) l7 A2 c2 r' from⟨mq,HA.o.2.2.keep kf iV,by rw[qq.o,bI,HT.o.len];rfl,by rw[qq.o];exact HN.o,HA.o.2.1.trans kf (λy hy hlt=>absurd (iV y hy) (by omega))⟩);clear mq kf qu iV fg qq hbs uq;simp only[Act.put,bo,bn,bh]
    go_wp2_with fail
    exact⟨⟨j+1,l7,A2,c2,r',by omega,by go_num,rfl,H7⟩,by simp[intOf];omega⟩
  ·obtain rfl:j=n:=by omega
   have HN:=zh (show cJ j l=some L by rw[HT.o.e,Nat.sub_self];simp[cJ]);obtain⟨A3,c3,hu⟩:=dn.slice HT.o.o;subst hu
   go_wp2_with fail
   go_ret2
   refine⟨HT.o.k, ?_⟩;rw[HN.o];exact⟨A3,c3,rfl,dn.cap HT.o.o,dn.at_ HT.o.o mE⟩
end Go.Proofs.YtahbikfbjenfpaaGreatDoor
