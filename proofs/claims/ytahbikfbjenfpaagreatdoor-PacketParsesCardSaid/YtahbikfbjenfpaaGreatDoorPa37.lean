/- Reference 15: a length read. -/
import Derived.Test.YtahbikfbjenfpaaGreatDoorPa29
set_option maxHeartbeats 2000000
set_option maxRecDepth 100000
namespace Go.Proofs.YtahbikfbjenfpaaGreatDoor
open Tryz Go.RowKit

/-- How the reference finds it: all bytes so far go on. -/
theorem GU (l:aG)(j:Nat)(hall:∀i (h:i < l.length),i < j->128<=l[i].toNat):
  (j<=3->l.length=j->gi l=some none)/\
  (j<=3->∀h:j < l.length,l[j].toNat < 128->(j=0\/l[j].toNat≠0->gi l=some (some (dx (l.take (j+1)),j+1)))/\(j≠0->l[j].toNat=0->gi l=none))/\
  (j=4->4<=l.length->gi l=none):=by
 rcases l with _ | ⟨a,l1⟩
 ·exact⟨λ_ _=>rfl,λ_ h=>absurd h (by simp),λ_ h=>absurd h (by simp)⟩
 have ha:=a.toNat_lt
 rcases Ey j with rfl | LL
 ·refine⟨λ_ h=>absurd h (by simp),λ_ _ h=>⟨λ_=> ?_,λh0=>absurd rfl h0⟩,λh=>by omega⟩
  have h:a.toNat < 128:=h;simp[gi,h,dx,Nat.mod_eq_of_lt h]
 have a1:¬a.toNat < 128:=by have:=hall 0 (by simp) LL;simp at this;omega
 rcases l1 with _ | ⟨b,l2⟩
 ·exact⟨λ_ _=>by simp[gi,a1],λ_ h=>absurd h (by simp;omega),λ_ h=>absurd h (by simp)⟩
 have hb:=b.toNat_lt
 rcases eS 1 j with S8 | S8
 case inr=>
  obtain rfl:j=1:=by omega
  refine⟨λ_ h=>absurd h (by simp),λ_ _ h=>⟨λh0=> ?_,λ_ h0=> ?_⟩,λh=>by omega⟩
  ·have h:b.toNat < 128:=h
   have h0:b.toNat≠0:=h0.resolve_left (by omega);simp only[gi,a1,h,h0,jF,jC,dc,dg,dx]
   congr 3
   omega
  ·have h:b.toNat < 128:=h
   have h0:b.toNat=0:=h0;simp[gi,a1,h0]
 have b1:¬b.toNat < 128:=by have:=hall 1 (by simp) S8;simp at this;omega
 rcases l2 with _ | ⟨c,l3⟩
 ·exact⟨λ_ _=>by simp[gi,a1,b1],λ_ h=>absurd h (by simp;omega),λ_ h=>absurd h (by simp)⟩
 have hc:=c.toNat_lt
 rcases eS 2 j with hj2 | hj2
 case inr=>
  obtain rfl:j=2:=by omega
  refine⟨λ_ h=>absurd h (by simp),λ_ _ h=>⟨λh0=> ?_,λ_ h0=> ?_⟩,λh=>by omega⟩
  ·have h:c.toNat < 128:=h
   have h0:c.toNat≠0:=h0.resolve_left (by omega);simp only[gi,a1,b1,h,h0,jF,jC,dc,dg,dx]
   congr 3
   omega
  ·have h:c.toNat < 128:=h
   have h0:c.toNat=0:=h0;simp[gi,a1,b1,h0]
 have c1:¬c.toNat < 128:=by have:=hall 2 (by simp) hj2;simp at this;omega
 rcases l3 with _ | ⟨d,l4⟩
 ·exact⟨λ_ _=>by simp[gi,a1,b1,c1],λ_ h=>absurd h (by simp;omega),λ_ h=>absurd h (by simp)⟩
 have hd:=d.toNat_lt
 rcases eS 3 j with S7 | S7
 case inr=>
  obtain rfl:j=3:=by omega
  refine⟨λ_ h=>absurd h (by simp),λ_ _ h=>⟨λh0=> ?_,λ_ h0=> ?_⟩,λh=>by omega⟩
  ·have h:d.toNat < 128:=h
   have h0:d.toNat≠0:=h0.resolve_left (by omega);simp only[gi,a1,b1,c1,h,h0,jF,jC,dc,dg,dx]
   congr 3
   omega
  ·have h:d.toNat < 128:=h
   have h0:d.toNat=0:=h0;simp[gi,a1,b1,c1,h0]
 have d1:¬d.toNat < 128:=by have:=hall 3 (by simp) S7;simp at this;omega
 exact⟨λh=>by omega,λh=>by omega,λ_ _=>by simp[gi,a1,b1,c1,d1]⟩
theorem wQ (w:au)(A:Option Addr)(c:Nat)(l:aG)(hL:cG w w.heap.size A (l.map bq)):Calls prog 41 #[.slice A l.length c] w λe w' =>e= .returned (kC l)/\w=w' :=by
 go_enter func41,ntmps41
 go_wp2_with fail
 go_loop [5,6,7] (λn o i=>∃j:Nat,j<=4/\j<=l.length/\i= .int .i64 j/\n= .int .i64 (dx (l.take j):Nat)/\o= .int .i64 ((128^j:Nat):Int)/\Hid (∀i (h:i < l.length),i < j->128<=l[i].toNat)) (λ_ _ i=>4 - (intOf i).toNat)
 case atStart=>exact⟨0,by omega,by omega,rfl,rfl,rfl,zh (λ_ _ h=>by omega)⟩
 case round=>
  obtain⟨j,hj,hjle,rfl,rfl,rfl,HJ⟩:=hrel;have HR:=zh (GU l j HJ.o)
  by_cases Ux:j < 4
  ·by_cases hjl:(j:Int)=l.length
   ·have HA:=zh (HR.o.1 (by omega) (by omega))
    have hq:((j:Int)==(l.length:Int))=true:=by simpa using hjl
    clear hL hjl
    go_wp2_with fail
    refine bD (v:= .tuple #[.int .i64 0,.int .i64 0,.int .i64 0]) (by simp[results,results41,go_sem]) rfl ⟨?_,rfl⟩;unfold kC;rw[HA.o]
   ·have hq:((j:Int)==(l.length:Int))=false:=by simpa using hjl
    have JR:j < l.length:=by omega
    obtain⟨b,o,rfl,hb,hcx⟩:=hL.at_ (k:=j) (by simpa using JR);rw[eW l JR]at hcx;have hs:=vg (l.take j) l[j];have hlt:=Ag (l.take j);rw[<-hO JR]at hs;rw[dq,Nat.min_eq_left (by omega)]at hs hlt;have hx:=l[j].toNat_lt;have HY:=zh (HR.o.2.1 (by omega) JR);have HG:=zh (show 128<=l[j].toNat->∀i (h:i < l.length),i < j+1->128<=l[i].toNat from λhge i hi hij=>by
     rcases eS i j with h | h
     ·exact HJ.o i hi h
     ·obtain rfl:i=j:=by omega
      exact hge)
    have hp:(128:Nat)^j<=2097152:=by
     have:j=0\/j=1\/j=2\/j=3:=by omega
     rcases this with rfl | rfl | rfl | rfl <;> decide
    have HP:=zh (oK 128 j);have HL:=zh hL;clear hL
    generalize l[j].toNat=x at*
    have hmul:x % 128*128^j<=127*2097152:=lR (by omega) hp
    generalize (128:Nat)^j=o1 at*
    generalize dx (l.take j)=N at*
    have e1:(x:Int).tmod 128=(x:Int) % 128:=rC (by omega);obtain⟨P,hP⟩:∃P:Nat,x % 128*o1=P:=⟨_,rfl⟩;have e2:(x:Int) % 128*(o1:Int)=(P:Int):=by rw[<-hP,Int.natCast_mul,Int.natCast_emod];rfl
    rw[hP]at hs hmul
    by_cases Dr:x < 128
    ·have d1:decide ((x:Int) < 128)=true:=bz (by omega)
     by_cases LL:j=0
     ·have HA:=zh ((HY.o Dr).1 (.inl LL))
      clear HJ HR HY HG HP;subst LL;rw[fj]at hcx
      go_wp2_with fail
      refine bD (v:= .tuple #[.int .i64 ((N:Int)+P),.int .i64 1,.int .i64 0]) (by simp[results,results41,go_sem]) rfl ⟨?_,rfl⟩;unfold kC;rw[HA.o];simp only[hs];rfl
     ·have d2:decide ((j:Int) > 0)=true:=bz (by omega)
      by_cases hx0:x=0
      ·have Fx:((x:Int)==0)=true:=by simp[hx0]
       have HA:=zh ((HY.o Dr).2 LL hx0);clear HJ HR
       go_wp2_with fail
       refine bD (v:= .tuple #[.int .i64 0,.int .i64 0,.int .i64 250]) (by simp[results,results41,go_sem]) rfl ⟨?_,rfl⟩;unfold kC;rw[HA.o]
      ·have Fx:((x:Int)==0)=false:=by simp;omega
       have HA:=zh ((HY.o Dr).1 (.inr hx0));clear HJ HR
       go_wp2_with fail
       refine bD (v:= .tuple #[.int .i64 ((N:Int)+P),.int .i64 ((j:Int)+1),.int .i64 0]) (by simp[results,results41,go_sem]) rfl ⟨?_,rfl⟩;unfold kC;rw[HA.o];simp only[hs];rfl
    ·have d1:decide ((x:Int) < 128)=false:=aZ (by omega)
     have HS:=zh hs;clear HJ HR HY hs
     go_wp2_with fail
     exact⟨⟨j+1,by omega,by omega,by go_num,by rw[HS.o];go_num,by rw[HP.o];go_num,zh (HG.o (by omega))⟩,by simp[intOf];omega⟩
  ·obtain rfl:j=4:=by omega
   have HA:=zh (HR.o.2.2 rfl hjle);clear HR HJ hL
   go_wp2_with fail
   refine bD (v:= .tuple #[.int .i64 0,.int .i64 0,.int .i64 250]) (by simp[results,results41,go_sem]) rfl ⟨?_,rfl⟩;unfold kC;rw[HA.o]
end Go.Proofs.YtahbikfbjenfpaaGreatDoor
