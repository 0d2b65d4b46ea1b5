/- Package utf: may, classes. -/
import Derived.Test.YtoadlafdeoklbaaGreatDoorPa2
import Derived.Lib.Hide
import Derived.Test.YtoadlafdeoklbaaGreatDoorPa3

namespace Go.Proofs.YtoadlafdeoklbaaGreatDoor
open Go.RowKit

set_option maxRecDepth 100000 in
set_option maxHeartbeats 4000000 in
theorem uMay_any (w:World)(r:Int)(h0:0 < r)(hr:r≤2147483647):Calls Tryz.prog 138 #[.int .i32 r] w fun e w' =>e= .returned (.bool (decide (uMay r.toNat)))∧w=w' :=by
 have HB:=zh (show decide (uMay r.toNat)=decide ((0≤r∧r≤1114111)∧(r < 55296∨57343 < r))by
  apply decide_eq_decide.2;unfold uMay;omega)
 by_cases h1:r≤1114111
 ·by_cases h2:r < 55296
  ·go_enter Tryz.func138,Tryz.ntmps138
   go_wp2_with fail
   go_ret;refine⟨?_,rfl⟩;show Ending.returned (.bool true)= .returned (.bool (decide (uMay r.toNat)));rw[HB.out,decide_eq_true (by omega)]
  ·by_cases h3:57343 < r
   ·go_enter Tryz.func138,Tryz.ntmps138
    go_wp2_with fail
    go_ret;refine⟨?_,rfl⟩;show Ending.returned (.bool true)= .returned (.bool (decide (uMay r.toNat)));rw[HB.out,decide_eq_true (by omega)]
   ·go_enter Tryz.func138,Tryz.ntmps138
    go_wp2_with fail
    go_ret;refine⟨?_,rfl⟩;show Ending.returned (.bool false)= .returned (.bool (decide (uMay r.toNat)));rw[HB.out,decide_eq_false (by omega)]
 ·go_enter Tryz.func138,Tryz.ntmps138
  go_wp2_with fail
  go_ret;refine⟨?_,rfl⟩;show Ending.returned (.bool false)= .returned (.bool (decide (uMay r.toNat)));rw[HB.out,decide_eq_false (by omega)]
theorem uMayN_any (w:World)(r:Nat)(h0:r≠0)(hr:r≤2147483647):Calls Tryz.prog 138 #[.int .i32 (r:Int)] w fun e w' =>e= .returned (.bool (decide (uMay r)))∧w=w' :=by
 have:=uMay_any w (r:Int) (by omega) (by omega)
 rwa [Int.toNat_natCast]at this
/-- The classes, as cells. -/
def classC:Array Value:= #[.int .i32 0,.int .u8 0,.int .i32 128,.int .u8 0,.int .i32 2048,.int .u8 192,.int .i32 65536,.int .u8 224,.int .i32 1114112,.int .u8 240]
set_option maxRecDepth 100000 in
set_option maxHeartbeats 4000000 in
theorem uClasses_any (w:World):Calls Tryz.prog 137 #[] w fun e w' =>e= .returned (.agg classC)∧Keeps w w' []:=by
 go_enter Tryz.func137,Tryz.ntmps137
 go_wp2_with fail
 refine bodyPost_ret (v:= .agg classC) ?_ rfl ⟨rfl,Keeps.alloc _ _⟩;simp[results,Tryz.results137,go_sem,classC]
set_option maxRecDepth 100000 in
set_option maxHeartbeats 4000000 in
theorem uLong1_any (w:World)(b:Nat)(r x y:Int)(h:Row w b 21 #[.int .i32 r]):Calls Tryz.prog 143 (#[.agg #[.int .i32 x,.int .u8 y]]++ #[.pointer (some ⟨b,0,none⟩)]) w fun e w' =>e= .returned (.bool (decide (r < x)))∧Keeps w w' []:=by
 obtain⟨Wa,hWa⟩:∃Wa,w.alloc (.cells #[.int .i32 x,.int .u8 y] 167)=Wa:=⟨_,rfl⟩;have k0:Keeps w Wa []:=by rw[←hWa];exact Keeps.alloc _ _
 have c0:=(h.keeps k0).cell 0;have c1:Wa.cell? ⟨w.heap.size,0,none⟩=some (.int .i32 x):=by rw[←hWa];exact(Row.new w _ _).cell 0
 simp only[zga,zgz]at c0;have HK:=zh k0;clear k0
 go_enter Tryz.func143,Tryz.ntmps143
 go_wp2_with fail
 go_ret;exact⟨rfl,HK.out⟩
set_option maxRecDepth 100000 in
set_option maxHeartbeats 4000000 in
theorem uIdx_any (w:World)(b d r:Nat)(h:r≤1114111)(hb:Row w b 168 classC)(hd:Row w d 21 #[.int .i32 (r:Int)]):
  Calls Tryz.prog 142 #[.slice (some ⟨b,0,none⟩) 5 5,.func (Fn.func 143) #[] #[.pointer (some ⟨d,0,none⟩)]] w fun e w' =>e= .returned (.int .i64 ((uRaw r).length:Nat))∧Keeps w w' []:=by
 have HB:=zh (And.intro hb hd);obtain⟨L,hL⟩:∃L,(uRaw r).length=L:=⟨_,rfl⟩;have HL:=zh (show(L=1∧r < 128)∨(L=2∧128≤r∧r < 2048)∨(L=3∧2048≤r∧r < 65536)∨(L=4∧65536≤r)by
  rw[uRaw_len]at hL
  split at hL
  ·omega
  ·split at hL
   ·omega
   ·split at hL <;> omega)
 rw[hL];clear hb hd hL
 go_enter Tryz.func142,Tryz.ntmps142
 go_wp2_with fail
 go_loopw [8] (fun i wr=>∃k:Nat,k≤L∧i= .int .i64 k∧Hid (Keeps w wr [])) (fun i _=>5 - (intOf i).toNat)
 case atStart=>exact⟨0,by omega,rfl,zh (Keeps.refl _ _)⟩
 case round=>
  obtain⟨k,hk,rfl,HK⟩:=hrel;have HD:=zh (HB.out.2.keeps HK.out);have hbw:=HB.out.1.keeps HK.out;have hL5:L≤4:=by have:=HL.out;omega
  rcases(show k=0∨k=1∨k=2∨k=3∨k=4 by omega)with rfl | rfl | rfl | rfl | rfl
  ·
   have c0:=hbw.cell 0;have c1:=hbw.cell 1;simp only[classC,zga,zgz,zgs]at c0 c1;clear hbw
   by_cases hx:(r:Int) < 0
   ·have hkL:L=0:=by have:=HL.out;omega
    subst hkL;have HX:=zh hx;clear hx
    go_wp2_with fail
    refine(uLong1_any _ _ _ 0 0 HD.out).mono ?_;rintro e w2 ⟨rfl,hk2⟩;rw[decide_eq_true (by have:=HX.out;omega)];have H2:=zh (HK.out.then_ hk2);clear hk2
    go_wp2_with fail
    go_ret;exact⟨rfl,H2.out⟩
   ·have hkL:0+1≤L:=by have:=HL.out;omega
    have HX:=zh hx;clear hx
    go_wp2_with fail
    refine(uLong1_any _ _ _ 0 0 HD.out).mono ?_;rintro e w2 ⟨rfl,hk2⟩;rw[decide_eq_false (by have:=HX.out;omega)];have H2:=zh (HK.out.then_ hk2);clear hk2
    go_wp2_with fail
    exact⟨⟨0+1,hkL,by go_num,H2⟩,by simp[intOf]⟩
  ·
   have c0:=hbw.cell 2;have c1:=hbw.cell 3;simp only[classC,zga,zgz,zgs]at c0 c1;clear hbw
   by_cases hx:(r:Int) < 128
   ·have hkL:L=1:=by have:=HL.out;omega
    subst hkL;have HX:=zh hx;clear hx
    go_wp2_with fail
    refine(uLong1_any _ _ _ 128 0 HD.out).mono ?_;rintro e w2 ⟨rfl,hk2⟩;rw[decide_eq_true (by have:=HX.out;omega)];have H2:=zh (HK.out.then_ hk2);clear hk2
    go_wp2_with fail
    go_ret;exact⟨rfl,H2.out⟩
   ·have hkL:1+1≤L:=by have:=HL.out;omega
    have HX:=zh hx;clear hx
    go_wp2_with fail
    refine(uLong1_any _ _ _ 128 0 HD.out).mono ?_;rintro e w2 ⟨rfl,hk2⟩;rw[decide_eq_false (by have:=HX.out;omega)];have H2:=zh (HK.out.then_ hk2);clear hk2
    go_wp2_with fail
    exact⟨⟨1+1,hkL,by go_num,H2⟩,by simp[intOf]⟩
  ·
   have c0:=hbw.cell 4;have c1:=hbw.cell 5;simp only[classC,zga,zgz,zgs]at c0 c1;clear hbw
   by_cases hx:(r:Int) < 2048
   ·have hkL:L=2:=by have:=HL.out;omega
    subst hkL;have HX:=zh hx;clear hx
    go_wp2_with fail
    refine(uLong1_any _ _ _ 2048 192 HD.out).mono ?_;rintro e w2 ⟨rfl,hk2⟩;rw[decide_eq_true (by have:=HX.out;omega)];have H2:=zh (HK.out.then_ hk2);clear hk2
    go_wp2_with fail
    go_ret;exact⟨rfl,H2.out⟩
   ·have hkL:2+1≤L:=by have:=HL.out;omega
    have HX:=zh hx;clear hx
    go_wp2_with fail
    refine(uLong1_any _ _ _ 2048 192 HD.out).mono ?_;rintro e w2 ⟨rfl,hk2⟩;rw[decide_eq_false (by have:=HX.out;omega)];have H2:=zh (HK.out.then_ hk2);clear hk2
    go_wp2_with fail
    exact⟨⟨2+1,hkL,by go_num,H2⟩,by simp[intOf]⟩
  ·
   have c0:=hbw.cell 6;have c1:=hbw.cell 7;simp only[classC,zga,zgz,zgs]at c0 c1;clear hbw
   by_cases hx:(r:Int) < 65536
   ·have hkL:L=3:=by have:=HL.out;omega
    subst hkL;have HX:=zh hx;clear hx
    go_wp2_with fail
    refine(uLong1_any _ _ _ 65536 224 HD.out).mono ?_;rintro e w2 ⟨rfl,hk2⟩;rw[decide_eq_true (by have:=HX.out;omega)];have H2:=zh (HK.out.then_ hk2);clear hk2
    go_wp2_with fail
    go_ret;exact⟨rfl,H2.out⟩
   ·have hkL:3+1≤L:=by have:=HL.out;omega
    have HX:=zh hx;clear hx
    go_wp2_with fail
    refine(uLong1_any _ _ _ 65536 224 HD.out).mono ?_;rintro e w2 ⟨rfl,hk2⟩;rw[decide_eq_false (by have:=HX.out;omega)];have H2:=zh (HK.out.then_ hk2);clear hk2
    go_wp2_with fail
    exact⟨⟨3+1,hkL,by go_num,H2⟩,by simp[intOf]⟩
  ·
   have c0:=hbw.cell 8;have c1:=hbw.cell 9;simp only[classC,zga,zgz,zgs]at c0 c1;clear hbw
   by_cases hx:(r:Int) < 1114112
   ·have hkL:L=4:=by have:=HL.out;omega
    subst hkL;have HX:=zh hx;clear hx
    go_wp2_with fail
    refine(uLong1_any _ _ _ 1114112 240 HD.out).mono ?_;rintro e w2 ⟨rfl,hk2⟩;rw[decide_eq_true (by have:=HX.out;omega)];have H2:=zh (HK.out.then_ hk2);clear hk2
    go_wp2_with fail
    go_ret;exact⟨rfl,H2.out⟩
   ·have hkL:4+1≤L:=by have:=HL.out;omega
    have HX:=zh hx;clear hx
    go_wp2_with fail
    refine(uLong1_any _ _ _ 1114112 240 HD.out).mono ?_;rintro e w2 ⟨rfl,hk2⟩;rw[decide_eq_false (by have:=HX.out;omega)];have H2:=zh (HK.out.then_ hk2);clear hk2
    go_wp2_with fail
    exact⟨⟨4+1,hkL,by go_num,H2⟩,by simp[intOf]⟩
set_option maxRecDepth 100000 in
set_option maxHeartbeats 4000000 in
theorem uLong_any (w:World)(r:Nat)(h:r≤1114111):Calls Tryz.prog 141 #[.int .i32 (r:Int)] w fun e w' =>e= .returned (.int .i64 ((uRaw r).length:Nat))∧Keeps w w' []:=by
 go_enter Tryz.func141,Tryz.ntmps141
 go_wp2_with fail
 refine(uClasses_any _).mono ?_;rintro e w1 ⟨rfl,hk⟩;unfold classC;have H1:=zh (And.intro ((Keeps.alloc w _).then_ hk) ((Row.new w 21 #[.int .i32 (r:Int)]).keeps hk));clear hk
 go_wp2_with fail
 refine(uIdx_any _ _ _ _ h (Row.new w1 _ _) (H1.out.2.alloc _)).mono ?_;rintro e w2 ⟨rfl,hk⟩;have H2:=zh ((H1.out.1.then_alloc _).then_ hk);clear hk
 go_wp2_with fail
 go_ret;exact⟨rfl,H2.out⟩
theorem clsIx0 (w:World):(Instr.index 168 (.agg #[.int .i32 0,.int .u8 0,.int .i32 128,.int .u8 0,.int .i32 2048,.int .u8 192,.int .i32 65536,.int .u8 224,.int .i32 1114112,.int .u8 240]) (.int .i64 0)).run Tryz.prog w= .ok (.agg #[.int .i32 0,.int .u8 0]) w:=by kernel_rfl
theorem clsIx1 (w:World):(Instr.index 168 (.agg #[.int .i32 0,.int .u8 0,.int .i32 128,.int .u8 0,.int .i32 2048,.int .u8 192,.int .i32 65536,.int .u8 224,.int .i32 1114112,.int .u8 240]) (.int .i64 1)).run Tryz.prog w= .ok (.agg #[.int .i32 128,.int .u8 0]) w:=by kernel_rfl
theorem clsIx2 (w:World):(Instr.index 168 (.agg #[.int .i32 0,.int .u8 0,.int .i32 128,.int .u8 0,.int .i32 2048,.int .u8 192,.int .i32 65536,.int .u8 224,.int .i32 1114112,.int .u8 240]) (.int .i64 2)).run Tryz.prog w= .ok (.agg #[.int .i32 2048,.int .u8 192]) w:=by kernel_rfl
theorem clsIx3 (w:World):(Instr.index 168 (.agg #[.int .i32 0,.int .u8 0,.int .i32 128,.int .u8 0,.int .i32 2048,.int .u8 192,.int .i32 65536,.int .u8 224,.int .i32 1114112,.int .u8 240]) (.int .i64 3)).run Tryz.prog w= .ok (.agg #[.int .i32 65536,.int .u8 224]) w:=by kernel_rfl
theorem clsIx4 (w:World):(Instr.index 168 (.agg #[.int .i32 0,.int .u8 0,.int .i32 128,.int .u8 0,.int .i32 2048,.int .u8 192,.int .i32 65536,.int .u8 224,.int .i32 1114112,.int .u8 240]) (.int .i64 4)).run Tryz.prog w= .ok (.agg #[.int .i32 1114112,.int .u8 240]) w:=by kernel_rfl
theorem clsFd1 (w:World):(Instr.field 167 (.agg #[.int .i32 128,.int .u8 0]) 1).run Tryz.prog w= .ok (.int .u8 0) w:=by kernel_rfl
theorem clsFd2 (w:World):(Instr.field 167 (.agg #[.int .i32 2048,.int .u8 192]) 1).run Tryz.prog w= .ok (.int .u8 192) w:=by kernel_rfl
theorem clsFd3 (w:World):(Instr.field 167 (.agg #[.int .i32 65536,.int .u8 224]) 1).run Tryz.prog w= .ok (.int .u8 224) w:=by kernel_rfl
theorem clsFd4 (w:World):(Instr.field 167 (.agg #[.int .i32 1114112,.int .u8 240]) 1).run Tryz.prog w= .ok (.int .u8 240) w:=by kernel_rfl
end Go.Proofs.YtoadlafdeoklbaaGreatDoor
