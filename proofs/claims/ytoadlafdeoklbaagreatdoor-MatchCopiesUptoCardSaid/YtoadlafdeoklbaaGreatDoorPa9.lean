/- Package utf: raw. -/
import Derived.Test.YtoadlafdeoklbaaGreatDoorPa7
import Derived.Test.YtoadlafdeoklbaaGreatDoorPa8
import Derived.Laws.BitsLemmas

namespace Go.Proofs.YtoadlafdeoklbaaGreatDoor
open Go.RowKit

/-- What stands of a rune's bytes while they are made from behind. -/
def uFill (n r i:Nat):List UInt8:=(List.range n).map fun j=>if j≤i then 0 else u8 (128+r / 64^(n - 1 - j) % 64)
theorem uFill_len (n r i:Nat):(uFill n r i).length=n:=by simp[uFill]
theorem uFill_set {n r k:Nat}(hk:0 < k)(hkn:k < n):(uFill n r k).set k (u8 (128+r / 64^(n - 1 - k) % 64))=uFill n r (k - 1):=by
 refine List.ext_getElem? fun j=> ?_
 unfold uFill;rw[List.getElem?_set,List.getElem?_map,List.getElem?_map,List.length_map,List.length_range]
 by_cases hj:j < n
 ·rw[List.getElem?_range hj]
  by_cases e:k=j
  ·subst e
   rw[if_pos rfl,if_pos hkn,Option.map_some,if_neg (by omega)]
  ·rw[if_neg e,Option.map_some,Option.map_some]
   by_cases h:j≤k
   ·rw[if_pos h,if_pos (by omega)]
   ·rw[if_neg h,if_neg (by omega)]
 ·have:(List.range n)[j]? =none:=List.getElem?_eq_none (by simp;omega)
  rw[this,if_neg (by omega)];rfl
theorem uFill_end {r n:Nat}(_h:r≤1114111)(hn:n=(uRaw r).length):(uFill n r 0).set 0 (u8 (uLead n+r / 64^(n - 1)))=uRaw r:=by
 rw[uRaw_len]at hn;unfold uRaw
 by_cases h1:r < 128
 ·rw[if_pos h1]at hn ⊢
  subst hn;simp[uFill,uLead,List.range_succ]
 ·rw[if_neg h1]at hn ⊢
  by_cases h2:r < 2048
  ·rw[if_pos h2]at hn ⊢
   subst hn;simp[uFill,uLead,List.range_succ]
  ·rw[if_neg h2]at hn ⊢
   by_cases h3:r < 65536
   ·rw[if_pos h3]at hn ⊢
    subst hn;simp[uFill,uLead,List.range_succ]
   ·rw[if_neg h3]at hn ⊢
    subst hn;simp[uFill,uLead,List.range_succ]
theorem and63 {x:Nat}(h:x < 2147483648):bits BinOp.and IntKind.i32 (x:Int) 63=((x % 64:Nat):Int):=by
 have:=bits_mask .i32 31 (by decide) wraps_i32 6 (by decide) (x:Int) (by omega) (by omega);exact this
theorem or128 {y:Nat}(h:y < 64):bits BinOp.or IntKind.i32 128 (y:Int)=((128+y:Nat):Int):=by
 have:=bits_join .i32 31 (by decide) wraps_i32 6 128 (y:Int) (by decide) (by decide) (by decide) (by omega) (by omega) (by omega);rw[this];omega
theorem orLead {n x:Nat}(h:(n=1∧x < 128)∨(n=2∧x < 32)∨(n=3∧x < 16)∨(n=4∧x < 8)):bits BinOp.or IntKind.u8 ((uLead n:Nat):Int) (x:Int)=((uLead n+x:Nat):Int):=by
 rcases h with⟨rfl,h⟩ | ⟨rfl,h⟩ | ⟨rfl,h⟩ | ⟨rfl,h⟩
 ·exact(bits_join .u8 8 (by decide) wraps_u8 7 0 (x:Int) (by decide) (by decide) (by decide) (by omega) (by omega) (by omega)).trans (by simp[uLead])
 ·exact(u8_or192 (x:Int) (by omega) (by omega)).trans (by simp[uLead])
 ·exact(u8_or224 (x:Int) (by omega) (by omega)).trans (by simp[uLead])
 ·exact(u8_or240 (x:Int) (by omega) (by omega)).trans (by simp[uLead])
set_option maxRecDepth 100000 in
set_option maxHeartbeats 4000000 in
theorem uRaw_any (w:World)(r:Nat)(h:r≤1114111):Calls Tryz.prog 139 #[.int .i32 (r:Int)] w fun e w' =>∃b,e= .returned (.slice (some ⟨b,0,none⟩) (uRaw r).length (uRaw r).length)∧Row w' b 5 (byC (uRaw r))∧Keeps w w' []:=by
 obtain⟨n,hn⟩:∃n,(uRaw r).length=n:=⟨_,rfl⟩;have HN:=zh (show n=(uRaw r).length∧1≤n∧n≤4 by
  rw[←hn,uRaw_len];refine⟨rfl, ?_⟩
  split
  ·omega
  ·split
   ·omega
   ·split <;> omega)
 rw[hn];obtain⟨Z,hZ⟩:∃Z,byC (List.replicate n 0)=Z:=⟨_,rfl⟩;have hmk:∀w:World,(Instr.makeSlice 151 (.int .i64 (n:Int)) (.int .i64 (n:Int))).run Tryz.prog w= .ok (.slice (some ⟨w.heap.size,0,none⟩) n n) (w.alloc (.cells Z 5)):=fun w=>by rw[←hZ];exact mk_by w n (by have:=HN.out;omega)
 have HZ:=zh hZ;clear hn hZ
 go_enter Tryz.func139,Tryz.ntmps139
 go_wp2_with fail
 refine(uLong_any w r h).mono ?_;rintro e w1 ⟨rfl,hk⟩;rw[←HN.out.1];have HS:=zh hk.size;have H1:=zh (And.intro (hk.then_alloc (.cells Z 5)) (Row.new w1 5 Z));have hwn:IntKind.i64.wrap ((n:Int) - 1)=(n:Int) - 1:=IntWalk.i64_in _ (by have:=HN.out;omega);clear hk
 go_wp2_with fail
 clear hmk hwn
 go_loopw [0,5] (fun a i wr=>∃(k x:Nat) (z:Int),k < n∧z=k∧a= .int .i32 (x:Int)∧i= .int .i64 z∧Hid (x=r / 64^(n - 1 - k)∧Row wr w1.heap.size 5 (byC (uFill n r k))∧Keeps w wr [])) (fun _ i _=>(intOf i).toNat)
 case atStart=>
  refine⟨n - 1,r,_,by have:=HN.out;omega,by have:=HN.out;omega,rfl,rfl,zh ⟨?_, ?_,H1.out.1⟩⟩
  ·rw[Nat.sub_self,Nat.pow_zero,Nat.div_one]
  ·have e:uFill n r (n - 1)=List.replicate n 0:=by
    unfold uFill;refine List.ext_getElem? fun j=> ?_
    rw[List.getElem?_map,List.getElem?_replicate]
    by_cases hj:j < n
    ·rw[List.getElem?_range hj,if_pos hj,Option.map_some,if_pos (by omega)]
    ·rw[List.getElem?_eq_none (by simp;omega),if_neg hj];rfl
   rw[e,HZ.out];exact H1.out.2
 case round=>
  clear H1;obtain⟨k,x,z,hk,rfl,rfl,rfl,HR⟩:=hrel;have hn4:=HN.out.2;have hxr:x≤1114111:=by rw[HR.out.1];exact Nat.le_trans (Nat.div_le_self _ _) h
  by_cases hk0:0 < k
  ·have q:=HR.out.2.1.cell k
   have f:=HR.out.2.1.frozen k;rw[byC_get _ (by rw[uFill_len];exact hk)]at q;have hkn:(k:Int) < n:=by omega
   have hwk:IntKind.i64.wrap ((k:Int) - 1)=(k:Int) - 1:=IntWalk.i64_in _ (by omega);unfold byteV at q;obtain⟨y,hy⟩:∃y,x % 64=y:=⟨_,rfl⟩;have hand:bits BinOp.and IntKind.i32 (x:Int) 63=(y:Int):=by rw[←hy];exact and63 (by omega)
   obtain⟨v,hv⟩:∃v,128+y=v:=⟨_,rfl⟩;have hor:bits BinOp.or IntKind.i32 128 (y:Int)=(v:Int):=by rw[←hv];exact or128 (by omega)
   have hvm:(v:Int) % 256=v:=by omega
   have HV:=zh (show Value.int .u8 (v:Int)=byteV (u8 (128+r / 64^(n - 1 - k) % 64))by
    unfold byteV;rw[←HR.out.1,hy,hv,toNat_u8 (by omega)])
   have HW:=zh (show w.heap.size≤w1.heap.size from HS.out);clear hy hv
   go_wp2_with fail
   refine⟨⟨k - 1,x / 64,_,by omega,by omega,by go_num,rfl,zh ⟨?_, ?_, ?_⟩⟩,by simp[intOf];omega⟩
   ·rw[HR.out.1,Nat.div_div_eq_div_mul,←Nat.pow_succ]
    congr 2
    omega
   ·rw[HV.out,←uFill_set hk0 hk,←byC_set]
    exact HR.out.2.1.store k _
   ·exact HR.out.2.2.trans (Keeps.setCell _ _ _) (fun y hy hlt=>by have:=HW.out;simp at hy;omega)
  ·obtain rfl:k=0:=by omega
   have HW:=zh (show w.heap.size≤w1.heap.size from HS.out);have HX:=zh (show(n=1∧x < 128)∨(n=2∧x < 32)∨(n=3∧x < 16)∨(n=4∧x < 8)by
    have e:=HN.out.1;have ex:=HR.out.1;rw[uRaw_len]at e
    by_cases h1:r < 128
    ·rw[if_pos h1]at e;subst e;simp at ex;omega
    ·rw[if_neg h1]at e
     by_cases h2:r < 2048
     ·rw[if_pos h2]at e;subst e;simp at ex;omega
     ·rw[if_neg h2]at e
      by_cases h3:r < 65536
      ·rw[if_pos h3]at e;subst e;simp at ex;omega
      ·rw[if_neg h3]at e;subst e;simp at ex;omega)
   obtain⟨v,hv⟩:∃v,uLead n+x=v:=⟨_,rfl⟩
   rcases(show n=1∨n=2∨n=3∨n=4 by omega)with rfl | rfl | rfl | rfl
   ·
    go_wp2_with fail
    refine(uClasses_any wr).mono ?_;rintro e w2 ⟨rfl,hk2⟩;unfold classC;have hq:=HR.out.2.1.keeps hk2;have q:=hq.cell 0;have f:=hq.frozen 0;rw[byC_get _ (by rw[uFill_len];exact hk)]at q;unfold byteV at q;have hor:bits BinOp.or IntKind.u8 0 (x:Int)=(v:Int):=by rw[←hv];exact orLead (n:=1) (x:=x) (by have:=HX.out;omega)
    have hxm:(x:Int) % 256=x:=by have:=HX.out;omega
    have hix:=clsIx1;have hfd:=clsFd1;have H2:=zh (And.intro hq (HR.out.2.2.then_ hk2));clear hq hk2
    go_wp2_with fail
    go_ret;refine⟨_,rfl, ?_,H2.out.2.trans (Keeps.setCell _ _ _) (fun y hy hlt=>by have:=HW.out;simp at hy;omega)⟩;have hv8:Value.int .u8 (v:Int)=byteV (u8 v):=by unfold byteV;rw[toNat_u8 (by have:=HX.out;rw[←hv];simp[uLead];omega)]
    rw[hv8];have:=H2.out.1.store 0 (byteV (u8 v));rw[byC_set,←hv]at this;rw[←uFill_end h HN.out.1];rw[←hv];rw[HR.out.1]at this ⊢
    exact this
   ·
    go_wp2_with fail
    refine(uClasses_any wr).mono ?_;rintro e w2 ⟨rfl,hk2⟩;unfold classC;have hq:=HR.out.2.1.keeps hk2;have q:=hq.cell 0;have f:=hq.frozen 0;rw[byC_get _ (by rw[uFill_len];exact hk)]at q;unfold byteV at q;have hor:bits BinOp.or IntKind.u8 192 (x:Int)=(v:Int):=by rw[←hv];exact orLead (n:=2) (x:=x) (by have:=HX.out;omega)
    have hxm:(x:Int) % 256=x:=by have:=HX.out;omega
    have hix:=clsIx2;have hfd:=clsFd2;have H2:=zh (And.intro hq (HR.out.2.2.then_ hk2));clear hq hk2
    go_wp2_with fail
    go_ret;refine⟨_,rfl, ?_,H2.out.2.trans (Keeps.setCell _ _ _) (fun y hy hlt=>by have:=HW.out;simp at hy;omega)⟩;have hv8:Value.int .u8 (v:Int)=byteV (u8 v):=by unfold byteV;rw[toNat_u8 (by have:=HX.out;rw[←hv];simp[uLead];omega)]
    rw[hv8];have:=H2.out.1.store 0 (byteV (u8 v));rw[byC_set,←hv]at this;rw[←uFill_end h HN.out.1];rw[←hv];rw[HR.out.1]at this ⊢
    exact this
   ·
    go_wp2_with fail
    refine(uClasses_any wr).mono ?_;rintro e w2 ⟨rfl,hk2⟩;unfold classC;have hq:=HR.out.2.1.keeps hk2;have q:=hq.cell 0;have f:=hq.frozen 0;rw[byC_get _ (by rw[uFill_len];exact hk)]at q;unfold byteV at q;have hor:bits BinOp.or IntKind.u8 224 (x:Int)=(v:Int):=by rw[←hv];exact orLead (n:=3) (x:=x) (by have:=HX.out;omega)
    have hxm:(x:Int) % 256=x:=by have:=HX.out;omega
    have hix:=clsIx3;have hfd:=clsFd3;have H2:=zh (And.intro hq (HR.out.2.2.then_ hk2));clear hq hk2
    go_wp2_with fail
    go_ret;refine⟨_,rfl, ?_,H2.out.2.trans (Keeps.setCell _ _ _) (fun y hy hlt=>by have:=HW.out;simp at hy;omega)⟩;have hv8:Value.int .u8 (v:Int)=byteV (u8 v):=by unfold byteV;rw[toNat_u8 (by have:=HX.out;rw[←hv];simp[uLead];omega)]
    rw[hv8];have:=H2.out.1.store 0 (byteV (u8 v));rw[byC_set,←hv]at this;rw[←uFill_end h HN.out.1];rw[←hv];rw[HR.out.1]at this ⊢
    exact this
   ·
    go_wp2_with fail
    refine(uClasses_any wr).mono ?_;rintro e w2 ⟨rfl,hk2⟩;unfold classC;have hq:=HR.out.2.1.keeps hk2;have q:=hq.cell 0;have f:=hq.frozen 0;rw[byC_get _ (by rw[uFill_len];exact hk)]at q;unfold byteV at q;have hor:bits BinOp.or IntKind.u8 240 (x:Int)=(v:Int):=by rw[←hv];exact orLead (n:=4) (x:=x) (by have:=HX.out;omega)
    have hxm:(x:Int) % 256=x:=by have:=HX.out;omega
    have hix:=clsIx4;have hfd:=clsFd4;have H2:=zh (And.intro hq (HR.out.2.2.then_ hk2));clear hq hk2
    go_wp2_with fail
    go_ret;refine⟨_,rfl, ?_,H2.out.2.trans (Keeps.setCell _ _ _) (fun y hy hlt=>by have:=HW.out;simp at hy;omega)⟩;have hv8:Value.int .u8 (v:Int)=byteV (u8 v):=by unfold byteV;rw[toNat_u8 (by have:=HX.out;rw[←hv];simp[uLead];omega)]
    rw[hv8];have:=H2.out.1.store 0 (byteV (u8 v));rw[byC_set,←hv]at this;rw[←uFill_end h HN.out.1];rw[←hv];rw[HR.out.1]at this ⊢
    exact this
end Go.Proofs.YtoadlafdeoklbaaGreatDoor
