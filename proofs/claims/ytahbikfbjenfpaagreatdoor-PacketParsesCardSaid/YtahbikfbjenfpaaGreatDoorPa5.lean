/- Reference 3: a number read of two bytes. Reference 16: a text taken. -/
import Derived.Test.YtahbikfbjenfpaaGreatDoorPa1
import Derived.Test.YtahbikfbjenfpaaGreatDoorPa3
set_option maxHeartbeats 1000000
set_option maxRecDepth 100000
namespace Go.Proofs.YtahbikfbjenfpaaGreatDoor
open Tryz Go.RowKit

def mC (l:aG):Value:=match jv 2 l with
 | some (n,_)=> .tuple #[.int .u64 (n:Nat),.bool true]
 | none=> .tuple #[.int .u64 0,.bool false]
theorem rR (w:au)(A:Option Addr)(c:Nat)(l:aG)(hL:cG w w.heap.size A (l.map bq)):
  Calls prog 44 #[.slice A l.length c,.int .i64 2] w λe w' =>e= .returned (mC l)/\w=w' :=by
 rcases l with _ | ⟨a,_ | ⟨b,l⟩⟩
 ·have hA:mC []= .tuple #[.int .u64 0,.bool false]:=rfl
  rw[hA]
  go_enter func44,ntmps44
  go_wp2_with fail
  go_ret2
  exact⟨rfl,rfl⟩
 ·have hA:mC [a]= .tuple #[.int .u64 0,.bool false]:=rfl
  rw[hA]
  go_enter func44,ntmps44
  go_wp2_with fail
  go_ret2
  exact⟨rfl,rfl⟩
 ·have hA:mC (a::b::l)= .tuple #[.int .u64 ((qw ((a::b::l).take 2):Nat):Int),.bool true]:=by
   unfold mC jv;rw[aE (by simp)]
  rw[hA];have hlen:2<=(a::b::l).length:=by simp
  generalize (a::b::l)=l at*
  have HL:=zh hL;clear hL hA;have hb:decide ((l.length:Int) < 2)=false:=by simp;omega
  go_enter func44,ntmps44
  go_wp2
  go_loop [6,7] (λt i=>∃j:Nat,j<=2/\i= .int .i64 j/\t= .int .u64 (qw (l.take j):Nat)) (λ_ i=>2 - (intOf i).toNat)
  case atStart=>exact⟨0,by omega,rfl,rfl⟩
  case round=>
   obtain⟨j,hj,rfl,rfl⟩:=hrel
   by_cases hjk:j < 2
   ·have hjl:j < l.length:=by omega
    obtain⟨b,o,rfl,hb,hcx⟩:=HL.o.at_ (k:=j) (by simpa using hjl);rw[eW l hjl]at hcx;have Br:qw (l.take (j+1))=qw (l.take j)*256+l[j].toNat:=by rw[hO hjl,pN]
    have hn:qw (l.take j) < 65536:=by
     have h1:=DI (l.take j);have h3:256^(l.take j).length<=256^2:=lQ (by omega) (by rw[dq];omega);have h4:(256:Nat)^2=65536:=by decide
     omega
    have hx:l[j].toNat < 256:=l[j].toNat_lt
    generalize l[j].toNat=x at*
    generalize qw (l.take j)=M at*
    have HS:=zh Br;clear Br;have HB:=zh (show(256*(M:Int)+(x:Int))=((M*256+x:Nat):Int)by omega)
    go_wp2
    refine⟨⟨j+1,by omega,by go_num, ?_⟩,by simp[intOf];omega⟩;rw[HS.o,<-HB.o]
   ·obtain rfl:j=2:=by omega
    go_wp2
    go_ret2
    exact⟨rfl,rfl⟩
end Go.Proofs.YtahbikfbjenfpaaGreatDoor
