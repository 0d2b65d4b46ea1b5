/- The reference of packets: a text taken out of bytes. -/
import Derived.Test.YtahbikfbjenfpaaGreatDoorPa5
import Derived.Test.YtahbikfbjenfpaaGreatDoorPa12
import Derived.Test.YtahbikfbjenfpaaGreatDoorPa15
import Derived.Deep.Cut
import Derived.OwnWalk
set_option maxHeartbeats 1000000
set_option maxRecDepth 100000
namespace Go.Proofs.YtahbikfbjenfpaaGreatDoor
open Tryz Go.RowKit

/-- Bytes that may be read. -/
structure lL (w:au)(B:Nat)(A:Option Addr)(c:Nat)(l:aG):Prop where
 below:cG w B A (l.map bq)
 b:B<=w.heap.size
 le:l.length<=c
 cm:c<=maxLen
theorem lL.lies {w:au}{B:Nat}{A:Option Addr}{c:Nat}{l:aG}(h:lL w B A c l):cG w w.heap.size A (l.map bq):=h.below.mono h.b
theorem lL.keep {w w' :au}{B:Nat}{A:Option Addr}{c:Nat}{l:aG}{S:List Nat}(h:lL w B A c l)(k:ae w w' S)(hs:∀x∈S,B<=x):lL w' B A c l:=⟨h.below.keep k h.b hs,cH h.b k.size,h.le,h.cm⟩
theorem lL.keeps {w w' :au}{B:Nat}{A:Option Addr}{c:Nat}{l:aG}(h:lL w B A c l)(k:ae w w' []):lL w' B A c l:=h.keep k (by simp)
theorem lL.up {w:au}{B:Nat}{A:Option Addr}{c:Nat}{l:aG}(h:lL w B A c l):lL w w.heap.size A c l:=⟨h.lies,bE _,h.le,h.cm⟩
/-- Behind the first k bytes. -/
theorem lL.drop {w:au}{B:Nat}{A:Option Addr}{c:Nat}{l:aG}(h:lL w B A c l){k:Nat}(hk:k<=l.length):lL w B (if c=k then A else A.map (·.add k)) (c - k) (l.drop k):=
 ⟨by rw[List.map_drop];exact h.below.cut (by rw[xF];exact h.le),h.b,by rw[dQ];have:=h.le;omega,by have:=h.cm;omega⟩
theorem iW {P:Program}{e:Operand->Value}{o:Oper}{W:au}{t u:TypeId}{x:Operand}{v s:Value}(ho:o.op= .convert t u x)(hx:e x=v)(h:(convert t u v).run P W= .ok s W):(execOp e o).run P W= .ok (.value s) W:=by
 unfold execOp;simp only[ho,hx,fo,h,fk,gq]
theorem Aq:∀W,(sizeOf (Tryz.prog.elem 32)).run prog W= .ok 1 W:=λW=>by kernel_rfl
theorem qa:Tryz.prog.underlying 32=some (.slice (Tryz.prog.elem 32)):=by kernel_rfl
section
variable {e:Operand->Value} {o:Oper} {W:au} {x lo hi:Operand} {a:Option Addr} {len cap l h:Nat} {kl kh:IntKind}
theorem zt (ho:o.op= .slice 32 x (some lo) (some hi) none)(hx:e x= .slice a len cap)(h1:e lo= .int kl (l:Nat))(h2:e hi= .int kh (h:Nat))(hl:l<=h)(hc:h<=cap):
  (execOp e o).run prog W= .ok (.value (.slice (if cap=l then a else a.map (·.add l)) (h - l) (cap - l))) W:=by
 have hs:=run_slice_lh (P:=prog) W 32 a len cap qa kl kh (l:Int) (h:Int) (by omega) (by omega) (by omega);rw[<-run_sliceAt_slice W _ _ _ _ _ qa,Aq]at hs;unfold execOp;simp only[ho,hx,h1,h2,tg,Option.map_none,fo,hs,fk,gq,sliced,fT,iO]
theorem eU (ho:o.op= .slice 32 x (some lo) none none)(hx:e x= .slice a len cap)(h1:e lo= .int kl (l:Nat))(hl:l<=len):
  (execOp e o).run prog W= .ok (.value (.slice (if cap=l then a else a.map (·.add l)) (len - l) (cap - l))) W:=by
 have hs:=run_slice_l (P:=prog) W 32 a len cap qa kl (l:Int) (by omega) (by omega);rw[<-run_sliceAt_slice W _ _ _ _ _ qa,Aq]at hs;unfold execOp;simp only[ho,hx,h1,tg,Option.map_none,fo,hs,fk,gq,sliced,fT,iO]
end
def zC (w:au)(B:Nat)(l:aG)(e:Ending)(w' :au):Prop:=ae w w' []/\match cQ l with
 | none=>e= .returned (.tuple #[.string ⟨#[]⟩,.slice none 0 0,.bool false])
 | some (s,r)=>∃A c,e= .returned (.tuple #[.string ⟨s.toArray⟩,.slice A r.length c,.bool true])/\lL w' B A c r
theorem mf (w:au)(B:Nat)(A:Option Addr)(c:Nat)(l:aG)(h:lL w B A c l):Calls prog 43 #[.slice A l.length c] w (zC w B l):=by
 have HN:=zh (rR w A c l h.lies)
 cases hN:jv 2 l with
 | none=>
  have hP:∀e w',e= .returned (.tuple #[.string ⟨#[]⟩,.slice none 0 0,.bool false])->ae w w' []->zC w B l e w' :=λe w' h1 h2=>⟨h2,by unfold cQ;rw[hN];exact h1⟩
  have hA:mC l= .tuple #[.int .u64 0,.bool false]:=by unfold mC;rw[hN]
  rw[hA]at HN;have HP:=zh hP;clear hP hA hN h
  go_enter func43,ntmps43
  go_wp2_with fail
  refine HN.o.mono ?_;rintro e w1 ⟨rfl,rfl⟩
  go_wp2_with fail
  go_ret3
  exact HP.o _ _ rfl (ae.refl _ _)
 | some nr=>
  obtain⟨n,r⟩:=nr;have hA:mC l= .tuple #[.int .u64 (n:Nat),.bool true]:=by unfold mC;rw[hN]
  rw[hA]at HN;have hr:r=l.drop 2/\2<=l.length/\n < 65536:=by
   have h1:=bJ hN;unfold jv at hN
   split at hN
   ·injection hN with hN
    injection hN with _ e2
    exact⟨e2.symm,by omega,by have:=h1.2.1;simpa using this⟩
   ·cases hN
  obtain⟨rfl,hl2,hn⟩:=hr;have hrl:(l.drop 2).length=l.length - 2:=dQ;have hcm:c<=9223372036854775807:=by have:=h.cm;simpa [maxLen]using this
  have hle:=h.le;have s1:IntKind.i64.wrap ((l.length:Int) - 2)=((l.length - 2:Nat):Int):=by rw[IntWalk.i64_in _ ⟨by omega,by omega⟩];omega
  have s2:IntKind.u64.wrap ((l.length - 2:Nat):Int)=((l.length - 2:Nat):Int):=IntWalk.u64_in _ ⟨by omega,by omega⟩;clear hA
  by_cases hz:n<=l.length - 2
  ·have hb:decide (((l.length - 2:Nat):Int) < (n:Int))=false:=aZ (by omega)
   have hX:cQ l=some ((l.drop 2).take n,(l.drop 2).drop n):=by unfold cQ;rw[hN];exact aE (by omega)
   have HP:=zh (show∀e w',ae w w' []->(∃A' c',e= .returned (.tuple #[.string ⟨((l.drop 2).take n).toArray⟩,.slice A' ((l.drop 2).drop n).length c',.bool true])/\lL w' B A' c' ((l.drop 2).drop n))->zC w B l e w' from λe w' h1 h2=>⟨h1,by rw[hX];exact h2⟩);clear hX hN;have s3:IntKind.u64.wrap (2+(n:Int))=((2+n:Nat):Int):=by rw[IntWalk.u64_in _ ⟨by omega,by omega⟩];omega
   have HB:=zh h
   go_enter func43,ntmps43
   go_wp2_with fail
   refine HN.o.mono ?_;rintro e w1 ⟨rfl,rfl⟩
   go_upto_region 4 with fail
   obtain⟨A1,L9⟩:∃A1,(if c=2 then A else A.map (·.add 2))=A1:=⟨_,rfl⟩;obtain⟨A2,zr⟩:∃A2,(if c=2+n then A else A.map (·.add (2+n)))=A2:=⟨_,rfl⟩;have HE:=zh (And.intro L9 zr);have HD:=zh (show∀W,ae w W []->lL W B A2 (c - (2+n)) (l.drop (2+n))from λW hW=>zr▸(HB.o.keeps hW).drop (k:=2+n) (by omega));have HC:=zh (show∀W,ae w W []->(convert 32 9 (.slice A1 n (c - 2))).run prog W= .ok (.string ⟨((l.drop 2).take n).toArray⟩) W from λW hW=>by
    have hh:=dO W W.heap.size (if c=2 then A else A.map (·.add 2)) (c - 2) ((l.drop 2).take n) (by rw[List.map_take];exact(((HB.o.keeps hW).drop hl2).lies).take n)
    rwa [dq,Nat.min_eq_left (by omega),L9]at hh)
   clear L9 zr;refine aB _ (by kernel_rfl) rfl (by kernel_rfl) ?_
   iterate 2
    refine ls ?_;simp only[af]
   apply ak
   ·intro W vals hW ag
    simp only[knows]at ag
    try simp only[ai]at ag
    clear ag;have m:=s3;refine⟨?_⟩;simp only[fill];go_simp
    first | exact⟨ae.refl _ _,rfl⟩ | exact⟨ae.alloc _ _,rfl⟩
   simp only[af];refine aK (.slice A1 n (c - 2)) (λ_=>by kernel_rfl) (λW vals=> ?_) ?_
   ·rw[zt (x:= .tmp 22) (lo:= .const (.int .i64 2)) (hi:= .tmp 24) (a:=A) (len:=l.length) (cap:=c) (l:=2) (h:=2+n) (kl:= .i64) (kh:= .u64) rfl (by kernel_rfl) (by kernel_rfl) (by kernel_rfl) (by omega) (by omega),show 2+n - 2=n by omega,HE.o.1]
   refine ak (.string ⟨((l.drop 2).take n).toArray⟩) (λW vals hW _=>⟨?_⟩) ?_
   ·rw[aE (by kernel_rfl)]
    rw[iW (t:=32) (u:=9) (x:= .tmp 25) (v:= .slice A1 n (c - 2)) (s:= .string ⟨((l.drop 2).take n).toArray⟩) rfl (by kernel_rfl) (HC.o W hW)];exact⟨ae.refl _ _,rfl⟩
   iterate 2
    simp only[af];refine ls ?_
   simp only[af];apply ak
   ·intro W vals hW ag
    simp only[knows]at ag
    try simp only[ai]at ag
    clear ag;have m:=s3;refine⟨?_⟩;simp only[fill];go_simp
    first | exact⟨ae.refl _ _,rfl⟩ | exact⟨ae.alloc _ _,rfl⟩
   simp only[af];refine aK (.slice A2 (l.length - (2+n)) (c - (2+n))) (λ_=>by kernel_rfl) (λW vals=> ?_) ?_
   ·rw[eU (x:= .tmp 27) (lo:= .tmp 29) (a:=A) (len:=l.length) (cap:=c) (l:=2+n) (kl:= .u64) rfl (by kernel_rfl) (by kernel_rfl) (by omega),HE.o.2]
   refine lq (.string ⟨((l.drop 2).take n).toArray⟩) ?_;refine lq (.slice A2 (l.length - (2+n)) (c - (2+n))) ?_;refine lq (.bool true) ?_;refine aq (λW vals hW ag=> ?_);simp only[af,aw]at ag
   try simp only[ai]at ag
   simp only[af,fill,Act.put,bo,bn,bh];clear ag;have HW:=zh hW;clear hW
   go_wp2_with fail
   go_ret3
   refine HP.o _ _ HW.o ⟨A2,c - (2+n), ?_,(by rw[List.drop_drop];exact HD.o _ HW.o)⟩;rw[List.drop_drop,dQ];rfl
  ·have hb:decide (((l.length - 2:Nat):Int) < (n:Int))=true:=bz (by omega)
   have hX:cQ l=none:=by unfold cQ;rw[hN];exact aj (by omega)
   have HP:=zh (show∀e w',e= .returned (.tuple #[.string ⟨#[]⟩,.slice none 0 0,.bool false])->ae w w' []->zC w B l e w' from λe w' h1 h2=>⟨h2,by rw[hX];exact h1⟩);clear hX hN h
   go_enter func43,ntmps43
   go_wp2_with fail
   refine HN.o.mono ?_;rintro e w1 ⟨rfl,rfl⟩
   go_wp2_with fail
   go_ret3
   exact HP.o _ _ rfl (ae.refl _ _)
end Go.Proofs.YtahbikfbjenfpaaGreatDoor
