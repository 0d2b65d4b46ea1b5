/- Reference 12: Raw. -/
import Derived.Test.YtoadlafdeoklbaaGreatDoorPa17

namespace Go.Proofs.YtoadlafdeoklbaaGreatDoor
open Go.RowKit Go.Shelf

theorem rConv (w:World)(l:List UInt8):(convert 151 9 (.slice (some ⟨w.heap.size,0,none⟩) l.length l.length)).run Tryz.prog (w.alloc (.cells (byC l) 5))= .ok (.string ⟨l.toArray⟩) (w.alloc (.cells (byC l) 5)):=
 conv_str _ _ _ _ l (lies_by (Row.new w 5 (byC l)))
set_option maxRecDepth 100000 in
set_option maxHeartbeats 2000000 in
theorem rRaw_any (w:World)(r:Nat)(hr:r≤1114111):Calls Tryz.prog 94 #[.int .i32 r] w fun e w' =>e= .returned (.string ⟨(uRaw r).toArray⟩)∧Keeps w w' []:=by
 by_cases h1:r < 128
 ·have d1:decide ((r:Int) < 128)=true:=by simp;omega
  have HU:=zh (show uRaw r= [u8 r]by unfold uRaw;rw[if_pos h1]);have cv:=rConv w [u8 r];rw[show byC [u8 r]= #[.int .u8 (r:Int)]by simp[byC,byteV,toNat_u8 (show r < 256 by omega)]]at cv
  generalize hS:(⟨[u8 r].toArray⟩:ByteArray)=S at cv
  have HS:=zh hS;clear hS;simp only[List.length_cons,List.length_nil,Nat.zero_add]at cv
  go_enter Tryz.func94,Tryz.ntmps94
  go_wp2_with fail
  go_ret;exact⟨by rw[HU.out,HS.out];rfl,Keeps.alloc _ _⟩
 ·have d1:decide ((r:Int) < 128)=false:=by simp;omega
  by_cases h2:r < 2048
  ·have d2:decide ((r:Int) < 2048)=true:=by simp;omega
   have q1:(r:Int).tdiv 64=((r / 64:Nat):Int):=by rw[Int.tdiv_eq_ediv_of_nonneg (by omega)];omega
   have HU:=zh (show uRaw r= [u8 (192+r / 64),u8 (128+r % 64)]by unfold uRaw;rw[if_neg h1,if_pos h2]);have cv:=rConv w [u8 (192+r / 64),u8 (128+r % 64)];rw[show byC [u8 (192+r / 64),u8 (128+r % 64)]= #[.int .u8 (192+(r:Int) / 64),.int .u8 (128+(r:Int) % 64)]by simp[byC,byteV,toNat_u8 (show 192+r / 64 < 256 by omega),toNat_u8 (show 128+r % 64 < 256 by omega)]]at cv
   generalize hS:(⟨[u8 (192+r / 64),u8 (128+r % 64)].toArray⟩:ByteArray)=S at cv
   have HS:=zh hS;clear hS;simp only[List.length_cons,List.length_nil,Nat.zero_add]at cv;have HX:=zh (rSix_any w r (by omega))
   go_enter Tryz.func94,Tryz.ntmps94
   go_wp2_with (go_at_call 116;refine HX.out.mono ?_;rintro e w1 ⟨rfl,rfl⟩)
   go_ret;exact⟨by rw[HU.out,HS.out];rfl,Keeps.alloc _ _⟩
  ·have d2:decide ((r:Int) < 2048)=false:=by simp;omega
   have hx0:=rSix_any w r (by omega);have hx1:=rSix_any w (r / 64) (by omega);have hx2:=rSix_any w (r / 4096) (by omega);simp only[Int.natCast_add,Int.natCast_emod,Int.natCast_ediv,Int.cast_ofNat_Int]at hx0 hx1 hx2;have HX:=zh (And.intro hx0 (And.intro hx1 hx2));clear hx0 hx1 hx2
   by_cases h3:r < 65536
   ·have d3:decide ((r:Int) < 65536)=true:=by simp;omega
    have HU:=zh (show uRaw r= [u8 (224+r / 4096),u8 (128+r / 64 % 64),u8 (128+r % 64)]by unfold uRaw;rw[if_neg h1,if_neg h2,if_pos h3]);have cv:=rConv w [u8 (224+r / 4096),u8 (128+r / 64 % 64),u8 (128+r % 64)];rw[show byC [u8 (224+r / 4096),u8 (128+r / 64 % 64),u8 (128+r % 64)]= #[.int .u8 (224+(r:Int) / 4096),.int .u8 (128+(r:Int) / 64 % 64),.int .u8 (128+(r:Int) % 64)]by simp[byC,byteV,toNat_u8 (show 224+r / 4096 < 256 by omega),toNat_u8 (show 128+r / 64 % 64 < 256 by omega),toNat_u8 (show 128+r % 64 < 256 by omega)]]at cv
    generalize hS:(⟨[u8 (224+r / 4096),u8 (128+r / 64 % 64),u8 (128+r % 64)].toArray⟩:ByteArray)=S at cv
    have HS:=zh hS;clear hS;simp only[List.length_cons,List.length_nil,Nat.zero_add]at cv
    go_enter Tryz.func94,Tryz.ntmps94
    go_wp2_with (go_at_call 116;first | (refine HX.out.1.mono ?_;rintro e w1 ⟨rfl,rfl⟩) | (refine HX.out.2.1.mono ?_;rintro e w1 ⟨rfl,rfl⟩))
    go_ret;exact⟨by rw[HU.out,HS.out];rfl,Keeps.alloc _ _⟩
   ·have d3:decide ((r:Int) < 65536)=false:=by simp;omega
    have HU:=zh (show uRaw r= [u8 (240+r / 262144),u8 (128+r / 4096 % 64),u8 (128+r / 64 % 64),u8 (128+r % 64)]by unfold uRaw;rw[if_neg h1,if_neg h2,if_neg h3]);have cv:=rConv w [u8 (240+r / 262144),u8 (128+r / 4096 % 64),u8 (128+r / 64 % 64),u8 (128+r % 64)];rw[show byC [u8 (240+r / 262144),u8 (128+r / 4096 % 64),u8 (128+r / 64 % 64),u8 (128+r % 64)]= #[.int .u8 (240+(r:Int) / 262144),.int .u8 (128+(r:Int) / 4096 % 64),.int .u8 (128+(r:Int) / 64 % 64),.int .u8 (128+(r:Int) % 64)]by simp[byC,byteV,toNat_u8 (show 240+r / 262144 < 256 by omega),toNat_u8 (show 128+r / 4096 % 64 < 256 by omega),toNat_u8 (show 128+r / 64 % 64 < 256 by omega),toNat_u8 (show 128+r % 64 < 256 by omega)]]at cv
    generalize hS:(⟨[u8 (240+r / 262144),u8 (128+r / 4096 % 64),u8 (128+r / 64 % 64),u8 (128+r % 64)].toArray⟩:ByteArray)=S at cv
    have HS:=zh hS;clear hS;simp only[List.length_cons,List.length_nil,Nat.zero_add]at cv
    go_enter Tryz.func94,Tryz.ntmps94
    go_wp2_with (go_at_call 116;first | (refine HX.out.1.mono ?_;rintro e w1 ⟨rfl,rfl⟩) | (refine HX.out.2.1.mono ?_;rintro e w1 ⟨rfl,rfl⟩) | (refine HX.out.2.2.mono ?_;rintro e w1 ⟨rfl,rfl⟩))
    go_ret;exact⟨by rw[HU.out,HS.out];rfl,Keeps.alloc _ _⟩
end Go.Proofs.YtoadlafdeoklbaaGreatDoor
