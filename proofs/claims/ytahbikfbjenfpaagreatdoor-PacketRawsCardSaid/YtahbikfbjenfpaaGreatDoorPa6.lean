/- Package utf: may, classes. Package utf: raw. -/
import Derived.Test.YtahbikfbjenfpaaGreatDoorPa2
import Derived.Lib.Hide
import Derived.Test.YtahbikfbjenfpaaGreatDoorPa1
import Derived.Test.YtahbikfbjenfpaaGreatDoorPa3
import Derived.Laws.BitsLemmas

namespace Go.Proofs.YtahbikfbjenfpaaGreatDoor
open Go.RowKit

set_option maxRecDepth 100000 in
set_option maxHeartbeats 4000000 in
theorem uMay_any (w:World)(r:Int)(h0:0 < r)(hr:r≤2147483647):Calls Tryz.prog 192 #[.int .i32 r] w fun e w' =>e= .returned (.bool (decide (uMay r.toNat)))∧w=w' :=by
 have HB:=zh (show decide (uMay r.toNat)=decide ((0≤r∧r≤1114111)∧(r < 55296∨57343 < r))by
  apply decide_eq_decide.2;unfold uMay;omega)
 by_cases h1:r≤1114111
 ·by_cases h2:r < 55296
  ·go_enter Tryz.func192,Tryz.ntmps192
   go_wp2_with fail
   go_ret;refine⟨?_,rfl⟩;show Ending.returned (.bool true)= .returned (.bool (decide (uMay r.toNat)));rw[HB.out,decide_eq_true (by omega)]
  ·by_cases h3:57343 < r
   ·go_enter Tryz.func192,Tryz.ntmps192
    go_wp2_with fail
    go_ret;refine⟨?_,rfl⟩;show Ending.returned (.bool true)= .returned (.bool (decide (uMay r.toNat)));rw[HB.out,decide_eq_true (by omega)]
   ·go_enter Tryz.func192,Tryz.ntmps192
    go_wp2_with fail
    go_ret;refine⟨?_,rfl⟩;show Ending.returned (.bool false)= .returned (.bool (decide (uMay r.toNat)));rw[HB.out,decide_eq_false (by omega)]
 ·go_enter Tryz.func192,Tryz.ntmps192
  go_wp2_with fail
  go_ret;refine⟨?_,rfl⟩;show Ending.returned (.bool false)= .returned (.bool (decide (uMay r.toNat)));rw[HB.out,decide_eq_false (by omega)]
theorem uMayN_any (w:World)(r:Nat)(h0:r≠0)(hr:r≤2147483647):Calls Tryz.prog 192 #[.int .i32 (r:Int)] w fun e w' =>e= .returned (.bool (decide (uMay r)))∧w=w' :=by
 have:=uMay_any w (r:Int) (by omega) (by omega)
 rwa [Int.toNat_natCast]at this
/-- The classes, as cells. -/
def classC:Array Value:= #[.int .i32 0,.int .u8 0,.int .i32 128,.int .u8 0,.int .i32 2048,.int .u8 192,.int .i32 65536,.int .u8 224,.int .i32 1114112,.int .u8 240]
set_option maxRecDepth 100000 in
set_option maxHeartbeats 4000000 in
theorem uClasses_any (w:World):Calls Tryz.prog 191 #[] w fun e w' =>e= .returned (.agg classC)∧Keeps w w' []:=by
 go_enter Tryz.func191,Tryz.ntmps191
 go_wp2_with fail
 refine bodyPost_ret (v:= .agg classC) ?_ rfl ⟨rfl,Keeps.alloc _ _⟩;simp[results,Tryz.results191,go_sem,classC]
set_option maxRecDepth 100000 in
set_option maxHeartbeats 4000000 in
theorem uLong1_any (w:World)(b:Nat)(r x y:Int)(h:Row w b 21 #[.int .i32 r]):Calls Tryz.prog 197 (#[.agg #[.int .i32 x,.int .u8 y]]++ #[.pointer (some ⟨b,0,none⟩)]) w fun e w' =>e= .returned (.bool (decide (r < x)))∧Keeps w w' []:=by
 obtain⟨Wa,hWa⟩:∃Wa,w.alloc (.cells #[.int .i32 x,.int .u8 y] 190)=Wa:=⟨_,rfl⟩;have k0:Keeps w Wa []:=by rw[←hWa];exact Keeps.alloc _ _
 have c0:=(h.keeps k0).cell 0;have c1:Wa.cell? ⟨w.heap.size,0,none⟩=some (.int .i32 x):=by rw[←hWa];exact(Row.new w _ _).cell 0
 simp only[zga,zgz]at c0;have HK:=zh k0;clear k0
 go_enter Tryz.func197,Tryz.ntmps197
 go_wp2_with fail
 go_ret;exact⟨rfl,HK.out⟩
set_option maxRecDepth 100000 in
set_option maxHeartbeats 4000000 in
theorem uIdx_any (w:World)(b d r:Nat)(h:r≤1114111)(hb:Row w b 191 classC)(hd:Row w d 21 #[.int .i32 (r:Int)]):
  Calls Tryz.prog 196 #[.slice (some ⟨b,0,none⟩) 5 5,.func (Fn.func 197) #[] #[.pointer (some ⟨d,0,none⟩)]] w fun e w' =>e= .returned (.int .i64 ((uRaw r).length:Nat))∧Keeps w w' []:=by
 have HB:=zh (And.intro hb hd);obtain⟨L,hL⟩:∃L,(uRaw r).length=L:=⟨_,rfl⟩;have HL:=zh (show(L=1∧r < 128)∨(L=2∧128≤r∧r < 2048)∨(L=3∧2048≤r∧r < 65536)∨(L=4∧65536≤r)by
  rw[uRaw_len]at hL
  split at hL
  ·omega
  ·split at hL
   ·omega
   ·split at hL <;> omega)
 rw[hL];clear hb hd hL
 go_enter Tryz.func196,Tryz.ntmps196
 go_wp2_with fail
 go_loopw [8] (fun i wr=>∃k:Nat,k≤L∧i= .int .i64 k∧Hid (Keeps w wr [])) (fun i _=>5 - (intOf i).toNat)
 case atStart=>exact⟨0,by omega,rfl,zh (Keeps.refl _ _)⟩
 case round=>
  obtain⟨k,hk,rfl,HK⟩:=hrel;have HD:=zh (HB.out.2.keeps HK.out);have hbw:=HB.out.1.keeps HK.out;have hL5:L≤4:=by have:=HL.out;omega
  rcases(show k=0∨k=1∨k=2∨k=3∨k=4 by omega)with rfl | rfl | rfl | rfl | rfl
  ·
   have c0:=hbw.cell 0;have c1:=hbw.cell 1;simp only[classC,zga,zgz,zgs]at c0 c1;clear hbw
   by_cases hx:(r:Int) < 0
   ·have hkL:L=0:=by have:=HL.out;omega
    subst hkL;have HX:=zh hx;clear hx
    go_wp2_with fail
    refine(uLong1_any _ _ _ 0 0 HD.out).mono ?_;rintro e w2 ⟨rfl,hk2⟩;rw[decide_eq_true (by have:=HX.out;omega)];have H2:=zh (HK.out.then_ hk2);clear hk2
    go_wp2_with fail
    go_ret;exact⟨rfl,H2.out⟩
   ·have hkL:0+1≤L:=by have:=HL.out;omega
    have HX:=zh hx;clear hx
    go_wp2_with fail
    refine(uLong1_any _ _ _ 0 0 HD.out).mono ?_;rintro e w2 ⟨rfl,hk2⟩;rw[decide_eq_false (by have:=HX.out;omega)];have H2:=zh (HK.out.then_ hk2);clear hk2
    go_wp2_with fail
    exact⟨⟨0+1,hkL,by go_num,H2⟩,by simp[intOf]⟩
  ·
   have c0:=hbw.cell 2;have c1:=hbw.cell 3;simp only[classC,zga,zgz,zgs]at c0 c1;clear hbw
   by_cases hx:(r:Int) < 128
   ·have hkL:L=1:=by have:=HL.out;omega
    subst hkL;have HX:=zh hx;clear hx
    go_wp2_with fail
    refine(uLong1_any _ _ _ 128 0 HD.out).mono ?_;rintro e w2 ⟨rfl,hk2⟩;rw[decide_eq_true (by have:=HX.out;omega)];have H2:=zh (HK.out.then_ hk2);clear hk2
    go_wp2_with fail
    go_ret;exact⟨rfl,H2.out⟩
   ·have hkL:1+1≤L:=by have:=HL.out;omega
    have HX:=zh hx;clear hx
    go_wp2_with fail
    refine(uLong1_any _ _ _ 128 0 HD.out).mono ?_;rintro e w2 ⟨rfl,hk2⟩;rw[decide_eq_false (by have:=HX.out;omega)];have H2:=zh (HK.out.then_ hk2);clear hk2
    go_wp2_with fail
    exact⟨⟨1+1,hkL,by go_num,H2⟩,by simp[intOf]⟩
  ·
   have c0:=hbw.cell 4;have c1:=hbw.cell 5;simp only[classC,zga,zgz,zgs]at c0 c1;clear hbw
   by_cases hx:(r:Int) < 2048
   ·have hkL:L=2:=by have:=HL.out;omega
    subst hkL;have HX:=zh hx;clear hx
    go_wp2_with fail
    refine(uLong1_any _ _ _ 2048 192 HD.out).mono ?_;rintro e w2 ⟨rfl,hk2⟩;rw[decide_eq_true (by have:=HX.out;omega)];have H2:=zh (HK.out.then_ hk2);clear hk2
    go_wp2_with fail
    go_ret;exact⟨rfl,H2.out⟩
   ·have hkL:2+1≤L:=by have:=HL.out;omega
    have HX:=zh hx;clear hx
    go_wp2_with fail
    refine(uLong1_any _ _ _ 2048 192 HD.out).mono ?_;rintro e w2 ⟨rfl,hk2⟩;rw[decide_eq_false (by have:=HX.out;omega)];have H2:=zh (HK.out.then_ hk2);clear hk2
    go_wp2_with fail
    exact⟨⟨2+1,hkL,by go_num,H2⟩,by simp[intOf]⟩
  ·
   have c0:=hbw.cell 6;have c1:=hbw.cell 7;simp only[classC,zga,zgz,zgs]at c0 c1;clear hbw
   by_cases hx:(r:Int) < 65536
   ·have hkL:L=3:=by have:=HL.out;omega
    subst hkL;have HX:=zh hx;clear hx
    go_wp2_with fail
    refine(uLong1_any _ _ _ 65536 224 HD.out).mono ?_;rintro e w2 ⟨rfl,hk2⟩;rw[decide_eq_true (by have:=HX.out;omega)];have H2:=zh (HK.out.then_ hk2);clear hk2
    go_wp2_with fail
    go_ret;exact⟨rfl,H2.out⟩
   ·have hkL:3+1≤L:=by have:=HL.out;omega
    have HX:=zh hx;clear hx
    go_wp2_with fail
    refine(uLong1_any _ _ _ 65536 224 HD.out).mono ?_;rintro e w2 ⟨rfl,hk2⟩;rw[decide_eq_false (by have:=HX.out;omega)];have H2:=zh (HK.out.then_ hk2);clear hk2
    go_wp2_with fail
    exact⟨⟨3+1,hkL,by go_num,H2⟩,by simp[intOf]⟩
  ·
   have c0:=hbw.cell 8;have c1:=hbw.cell 9;simp only[classC,zga,zgz,zgs]at c0 c1;clear hbw
   by_cases hx:(r:Int) < 1114112
   ·have hkL:L=4:=by have:=HL.out;omega
    subst hkL;have HX:=zh hx;clear hx
    go_wp2_with fail
    refine(uLong1_any _ _ _ 1114112 240 HD.out).mono ?_;rintro e w2 ⟨rfl,hk2⟩;rw[decide_eq_true (by have:=HX.out;omega)];have H2:=zh (HK.out.then_ hk2);clear hk2
    go_wp2_with fail
    go_ret;exact⟨rfl,H2.out⟩
   ·have hkL:4+1≤L:=by have:=HL.out;omega
    have HX:=zh hx;clear hx
    go_wp2_with fail
    refine(uLong1_any _ _ _ 1114112 240 HD.out).mono ?_;rintro e w2 ⟨rfl,hk2⟩;rw[decide_eq_false (by have:=HX.out;omega)];have H2:=zh (HK.out.then_ hk2);clear hk2
    go_wp2_with fail
    exact⟨⟨4+1,hkL,by go_num,H2⟩,by simp[intOf]⟩
set_option maxRecDepth 100000 in
set_option maxHeartbeats 4000000 in
theorem uLong_any (w:World)(r:Nat)(h:r≤1114111):Calls Tryz.prog 195 #[.int .i32 (r:Int)] w fun e w' =>e= .returned (.int .i64 ((uRaw r).length:Nat))∧Keeps w w' []:=by
 go_enter Tryz.func195,Tryz.ntmps195
 go_wp2_with fail
 refine(uClasses_any _).mono ?_;rintro e w1 ⟨rfl,hk⟩;unfold classC;have H1:=zh (And.intro ((Keeps.alloc w _).then_ hk) ((Row.new w 21 #[.int .i32 (r:Int)]).keeps hk));clear hk
 go_wp2_with fail
 refine(uIdx_any _ _ _ _ h (Row.new w1 _ _) (H1.out.2.alloc _)).mono ?_;rintro e w2 ⟨rfl,hk⟩;have H2:=zh ((H1.out.1.then_alloc _).then_ hk);clear hk
 go_wp2_with fail
 go_ret;exact⟨rfl,H2.out⟩
theorem clsIx0 (w:World):(Instr.index 191 (.agg #[.int .i32 0,.int .u8 0,.int .i32 128,.int .u8 0,.int .i32 2048,.int .u8 192,.int .i32 65536,.int .u8 224,.int .i32 1114112,.int .u8 240]) (.int .i64 0)).run Tryz.prog w= .ok (.agg #[.int .i32 0,.int .u8 0]) w:=by kernel_rfl
theorem clsIx1 (w:World):(Instr.index 191 (.agg #[.int .i32 0,.int .u8 0,.int .i32 128,.int .u8 0,.int .i32 2048,.int .u8 192,.int .i32 65536,.int .u8 224,.int .i32 1114112,.int .u8 240]) (.int .i64 1)).run Tryz.prog w= .ok (.agg #[.int .i32 128,.int .u8 0]) w:=by kernel_rfl
theorem clsIx2 (w:World):(Instr.index 191 (.agg #[.int .i32 0,.int .u8 0,.int .i32 128,.int .u8 0,.int .i32 2048,.int .u8 192,.int .i32 65536,.int .u8 224,.int .i32 1114112,.int .u8 240]) (.int .i64 2)).run Tryz.prog w= .ok (.agg #[.int .i32 2048,.int .u8 192]) w:=by kernel_rfl
theorem clsIx3 (w:World):(Instr.index 191 (.agg #[.int .i32 0,.int .u8 0,.int .i32 128,.int .u8 0,.int .i32 2048,.int .u8 192,.int .i32 65536,.int .u8 224,.int .i32 1114112,.int .u8 240]) (.int .i64 3)).run Tryz.prog w= .ok (.agg #[.int .i32 65536,.int .u8 224]) w:=by kernel_rfl
theorem clsIx4 (w:World):(Instr.index 191 (.agg #[.int .i32 0,.int .u8 0,.int .i32 128,.int .u8 0,.int .i32 2048,.int .u8 192,.int .i32 65536,.int .u8 224,.int .i32 1114112,.int .u8 240]) (.int .i64 4)).run Tryz.prog w= .ok (.agg #[.int .i32 1114112,.int .u8 240]) w:=by kernel_rfl
theorem clsFd1 (w:World):(Instr.field 190 (.agg #[.int .i32 128,.int .u8 0]) 1).run Tryz.prog w= .ok (.int .u8 0) w:=by kernel_rfl
theorem clsFd2 (w:World):(Instr.field 190 (.agg #[.int .i32 2048,.int .u8 192]) 1).run Tryz.prog w= .ok (.int .u8 192) w:=by kernel_rfl
theorem clsFd3 (w:World):(Instr.field 190 (.agg #[.int .i32 65536,.int .u8 224]) 1).run Tryz.prog w= .ok (.int .u8 224) w:=by kernel_rfl
theorem clsFd4 (w:World):(Instr.field 190 (.agg #[.int .i32 1114112,.int .u8 240]) 1).run Tryz.prog w= .ok (.int .u8 240) w:=by kernel_rfl

/-- What stands of a rune's bytes while they are made from behind. -/
def uFill (n r i:Nat):List UInt8:=(List.range n).map fun j=>if j≤i then 0 else u8 (128+r / 64^(n - 1 - j) % 64)
theorem uFill_len (n r i:Nat):(uFill n r i).length=n:=by simp[uFill]
theorem uFill_set {n r k:Nat}(hk:0 < k)(hkn:k < n):(uFill n r k).set k (u8 (128+r / 64^(n - 1 - k) % 64))=uFill n r (k - 1):=by
 refine List.ext_getElem? fun j=> ?_
 unfold uFill;rw[List.getElem?_set,List.getElem?_map,List.getElem?_map,List.length_map,List.length_range]
 by_cases hj:j < n
 ·rw[List.getElem?_range hj]
  by_cases e:k=j
  ·subst e
   rw[if_pos rfl,if_pos hkn,Option.map_some,if_neg (by omega)]
  ·rw[if_neg e,Option.map_some,Option.map_some]
   by_cases h:j≤k
   ·rw[if_pos h,if_pos (by omega)]
   ·rw[if_neg h,if_neg (by omega)]
 ·have:(List.range n)[j]? =none:=List.getElem?_eq_none (by simp;omega)
  rw[this,if_neg (by omega)];rfl
theorem uFill_end {r n:Nat}(_h:r≤1114111)(hn:n=(uRaw r).length):(uFill n r 0).set 0 (u8 (uLead n+r / 64^(n - 1)))=uRaw r:=by
 rw[uRaw_len]at hn;unfold uRaw
 by_cases h1:r < 128
 ·rw[if_pos h1]at hn ⊢
  subst hn;simp[uFill,uLead,List.range_succ]
 ·rw[if_neg h1]at hn ⊢
  by_cases h2:r < 2048
  ·rw[if_pos h2]at hn ⊢
   subst hn;simp[uFill,uLead,List.range_succ]
  ·rw[if_neg h2]at hn ⊢
   by_cases h3:r < 65536
   ·rw[if_pos h3]at hn ⊢
    subst hn;simp[uFill,uLead,List.range_succ]
   ·rw[if_neg h3]at hn ⊢
    subst hn;simp[uFill,uLead,List.range_succ]
theorem and63 {x:Nat}(h:x < 2147483648):bits BinOp.and IntKind.i32 (x:Int) 63=((x % 64:Nat):Int):=by
 have:=bits_mask .i32 31 (by decide) wraps_i32 6 (by decide) (x:Int) (by omega) (by omega);exact this
theorem or128 {y:Nat}(h:y < 64):bits BinOp.or IntKind.i32 128 (y:Int)=((128+y:Nat):Int):=by
 have:=bits_join .i32 31 (by decide) wraps_i32 6 128 (y:Int) (by decide) (by decide) (by decide) (by omega) (by omega) (by omega);rw[this];omega
theorem orLead {n x:Nat}(h:(n=1∧x < 128)∨(n=2∧x < 32)∨(n=3∧x < 16)∨(n=4∧x < 8)):bits BinOp.or IntKind.u8 ((uLead n:Nat):Int) (x:Int)=((uLead n+x:Nat):Int):=by
 rcases h with⟨rfl,h⟩ | ⟨rfl,h⟩ | ⟨rfl,h⟩ | ⟨rfl,h⟩
 ·exact(bits_join .u8 8 (by decide) wraps_u8 7 0 (x:Int) (by decide) (by decide) (by decide) (by omega) (by omega) (by omega)).trans (by simp[uLead])
 ·exact(u8_or192 (x:Int) (by omega) (by omega)).trans (by simp[uLead])
 ·exact(u8_or224 (x:Int) (by omega) (by omega)).trans (by simp[uLead])
 ·exact(u8_or240 (x:Int) (by omega) (by omega)).trans (by simp[uLead])
set_option maxRecDepth 100000 in
set_option maxHeartbeats 4000000 in
theorem uRaw_any (w:World)(r:Nat)(h:r≤1114111):Calls Tryz.prog 193 #[.int .i32 (r:Int)] w fun e w' =>∃b,e= .returned (.slice (some ⟨b,0,none⟩) (uRaw r).length (uRaw r).length)∧Row w' b 5 (byC (uRaw r))∧Keeps w w' []:=by
 obtain⟨n,hn⟩:∃n,(uRaw r).length=n:=⟨_,rfl⟩;have HN:=zh (show n=(uRaw r).length∧1≤n∧n≤4 by
  rw[←hn,uRaw_len];refine⟨rfl, ?_⟩
  split
  ·omega
  ·split
   ·omega
   ·split <;> omega)
 rw[hn];obtain⟨Z,hZ⟩:∃Z,byC (List.replicate n 0)=Z:=⟨_,rfl⟩;have hmk:∀w:World,(Instr.makeSlice 32 (.int .i64 (n:Int)) (.int .i64 (n:Int))).run Tryz.prog w= .ok (.slice (some ⟨w.heap.size,0,none⟩) n n) (w.alloc (.cells Z 5)):=fun w=>by rw[←hZ];exact mk_by w n (by have:=HN.out;omega)
 have HZ:=zh hZ;clear hn hZ
 go_enter Tryz.func193,Tryz.ntmps193
 go_wp2_with fail
 refine(uLong_any w r h).mono ?_;rintro e w1 ⟨rfl,hk⟩;rw[←HN.out.1];have HS:=zh hk.size;have H1:=zh (And.intro (hk.then_alloc (.cells Z 5)) (Row.new w1 5 Z));have hwn:IntKind.i64.wrap ((n:Int) - 1)=(n:Int) - 1:=IntWalk.i64_in _ (by have:=HN.out;omega);clear hk
 go_wp2_with fail
 clear hmk hwn
 go_loopw [0,5] (fun a i wr=>∃(k x:Nat) (z:Int),k < n∧z=k∧a= .int .i32 (x:Int)∧i= .int .i64 z∧Hid (x=r / 64^(n - 1 - k)∧Row wr w1.heap.size 5 (byC (uFill n r k))∧Keeps w wr [])) (fun _ i _=>(intOf i).toNat)
 case atStart=>
  refine⟨n - 1,r,_,by have:=HN.out;omega,by have:=HN.out;omega,rfl,rfl,zh ⟨?_, ?_,H1.out.1⟩⟩
  ·rw[Nat.sub_self,Nat.pow_zero,Nat.div_one]
  ·have e:uFill n r (n - 1)=List.replicate n 0:=by
    unfold uFill;refine List.ext_getElem? fun j=> ?_
    rw[List.getElem?_map,List.getElem?_replicate]
    by_cases hj:j < n
    ·rw[List.getElem?_range hj,if_pos hj,Option.map_some,if_pos (by omega)]
    ·rw[List.getElem?_eq_none (by simp;omega),if_neg hj];rfl
   rw[e,HZ.out];exact H1.out.2
 case round=>
  clear H1;obtain⟨k,x,z,hk,rfl,rfl,rfl,HR⟩:=hrel;have hn4:=HN.out.2;have hxr:x≤1114111:=by rw[HR.out.1];exact Nat.le_trans (Nat.div_le_self _ _) h
  by_cases hk0:0 < k
  ·have q:=HR.out.2.1.cell k
   have f:=HR.out.2.1.frozen k;rw[byC_get _ (by rw[uFill_len];exact hk)]at q;have hkn:(k:Int) < n:=by omega
   have hwk:IntKind.i64.wrap ((k:Int) - 1)=(k:Int) - 1:=IntWalk.i64_in _ (by omega);unfold byteV at q;obtain⟨y,hy⟩:∃y,x % 64=y:=⟨_,rfl⟩;have hand:bits BinOp.and IntKind.i32 (x:Int) 63=(y:Int):=by rw[←hy];exact and63 (by omega)
   obtain⟨v,hv⟩:∃v,128+y=v:=⟨_,rfl⟩;have hor:bits BinOp.or IntKind.i32 128 (y:Int)=(v:Int):=by rw[←hv];exact or128 (by omega)
   have hvm:(v:Int) % 256=v:=by omega
   have HV:=zh (show Value.int .u8 (v:Int)=byteV (u8 (128+r / 64^(n - 1 - k) % 64))by
    unfold byteV;rw[←HR.out.1,hy,hv,toNat_u8 (by omega)])
   have HW:=zh (show w.heap.size≤w1.heap.size from HS.out);clear hy hv
   go_wp2_with fail
   refine⟨⟨k - 1,x / 64,_,by omega,by omega,by go_num,rfl,zh ⟨?_, ?_, ?_⟩⟩,by simp[intOf];omega⟩
   ·rw[HR.out.1,Nat.div_div_eq_div_mul,←Nat.pow_succ]
    congr 2
    omega
   ·rw[HV.out,←uFill_set hk0 hk,←byC_set]
    exact HR.out.2.1.store k _
   ·exact HR.out.2.2.trans (Keeps.setCell _ _ _) (fun y hy hlt=>by have:=HW.out;simp at hy;omega)
  ·obtain rfl:k=0:=by omega
   have HW:=zh (show w.heap.size≤w1.heap.size from HS.out);have HX:=zh (show(n=1∧x < 128)∨(n=2∧x < 32)∨(n=3∧x < 16)∨(n=4∧x < 8)by
    have e:=HN.out.1;have ex:=HR.out.1;rw[uRaw_len]at e
    by_cases h1:r < 128
    ·rw[if_pos h1]at e;subst e;simp at ex;omega
    ·rw[if_neg h1]at e
     by_cases h2:r < 2048
     ·rw[if_pos h2]at e;subst e;simp at ex;omega
     ·rw[if_neg h2]at e
      by_cases h3:r < 65536
      ·rw[if_pos h3]at e;subst e;simp at ex;omega
      ·rw[if_neg h3]at e;subst e;simp at ex;omega)
   obtain⟨v,hv⟩:∃v,uLead n+x=v:=⟨_,rfl⟩
   rcases(show n=1∨n=2∨n=3∨n=4 by omega)with rfl | rfl | rfl | rfl
   ·
    go_wp2_with fail
    refine(uClasses_any wr).mono ?_;rintro e w2 ⟨rfl,hk2⟩;unfold classC;have hq:=HR.out.2.1.keeps hk2;have q:=hq.cell 0;have f:=hq.frozen 0;rw[byC_get _ (by rw[uFill_len];exact hk)]at q;unfold byteV at q;have hor:bits BinOp.or IntKind.u8 0 (x:Int)=(v:Int):=by rw[←hv];exact orLead (n:=1) (x:=x) (by have:=HX.out;omega)
    have hxm:(x:Int) % 256=x:=by have:=HX.out;omega
    have hix:=clsIx1;have hfd:=clsFd1;have H2:=zh (And.intro hq (HR.out.2.2.then_ hk2));clear hq hk2
    go_wp2_with fail
    go_ret;refine⟨_,rfl, ?_,H2.out.2.trans (Keeps.setCell _ _ _) (fun y hy hlt=>by have:=HW.out;simp at hy;omega)⟩;have hv8:Value.int .u8 (v:Int)=byteV (u8 v):=by unfold byteV;rw[toNat_u8 (by have:=HX.out;rw[←hv];simp[uLead];omega)]
    rw[hv8];have:=H2.out.1.store 0 (byteV (u8 v));rw[byC_set,←hv]at this;rw[←uFill_end h HN.out.1];rw[←hv];rw[HR.out.1]at this ⊢
    exact this
   ·
    go_wp2_with fail
    refine(uClasses_any wr).mono ?_;rintro e w2 ⟨rfl,hk2⟩;unfold classC;have hq:=HR.out.2.1.keeps hk2;have q:=hq.cell 0;have f:=hq.frozen 0;rw[byC_get _ (by rw[uFill_len];exact hk)]at q;unfold byteV at q;have hor:bits BinOp.or IntKind.u8 192 (x:Int)=(v:Int):=by rw[←hv];exact orLead (n:=2) (x:=x) (by have:=HX.out;omega)
    have hxm:(x:Int) % 256=x:=by have:=HX.out;omega
    have hix:=clsIx2;have hfd:=clsFd2;have H2:=zh (And.intro hq (HR.out.2.2.then_ hk2));clear hq hk2
    go_wp2_with fail
    go_ret;refine⟨_,rfl, ?_,H2.out.2.trans (Keeps.setCell _ _ _) (fun y hy hlt=>by have:=HW.out;simp at hy;omega)⟩;have hv8:Value.int .u8 (v:Int)=byteV (u8 v):=by unfold byteV;rw[toNat_u8 (by have:=HX.out;rw[←hv];simp[uLead];omega)]
    rw[hv8];have:=H2.out.1.store 0 (byteV (u8 v));rw[byC_set,←hv]at this;rw[←uFill_end h HN.out.1];rw[←hv];rw[HR.out.1]at this ⊢
    exact this
   ·
    go_wp2_with fail
    refine(uClasses_any wr).mono ?_;rintro e w2 ⟨rfl,hk2⟩;unfold classC;have hq:=HR.out.2.1.keeps hk2;have q:=hq.cell 0;have f:=hq.frozen 0;rw[byC_get _ (by rw[uFill_len];exact hk)]at q;unfold byteV at q;have hor:bits BinOp.or IntKind.u8 224 (x:Int)=(v:Int):=by rw[←hv];exact orLead (n:=3) (x:=x) (by have:=HX.out;omega)
    have hxm:(x:Int) % 256=x:=by have:=HX.out;omega
    have hix:=clsIx3;have hfd:=clsFd3;have H2:=zh (And.intro hq (HR.out.2.2.then_ hk2));clear hq hk2
    go_wp2_with fail
    go_ret;refine⟨_,rfl, ?_,H2.out.2.trans (Keeps.setCell _ _ _) (fun y hy hlt=>by have:=HW.out;simp at hy;omega)⟩;have hv8:Value.int .u8 (v:Int)=byteV (u8 v):=by unfold byteV;rw[toNat_u8 (by have:=HX.out;rw[←hv];simp[uLead];omega)]
    rw[hv8];have:=H2.out.1.store 0 (byteV (u8 v));rw[byC_set,←hv]at this;rw[←uFill_end h HN.out.1];rw[←hv];rw[HR.out.1]at this ⊢
    exact this
   ·
    go_wp2_with fail
    refine(uClasses_any wr).mono ?_;rintro e w2 ⟨rfl,hk2⟩;unfold classC;have hq:=HR.out.2.1.keeps hk2;have q:=hq.cell 0;have f:=hq.frozen 0;rw[byC_get _ (by rw[uFill_len];exact hk)]at q;unfold byteV at q;have hor:bits BinOp.or IntKind.u8 240 (x:Int)=(v:Int):=by rw[←hv];exact orLead (n:=4) (x:=x) (by have:=HX.out;omega)
    have hxm:(x:Int) % 256=x:=by have:=HX.out;omega
    have hix:=clsIx4;have hfd:=clsFd4;have H2:=zh (And.intro hq (HR.out.2.2.then_ hk2));clear hq hk2
    go_wp2_with fail
    go_ret;refine⟨_,rfl, ?_,H2.out.2.trans (Keeps.setCell _ _ _) (fun y hy hlt=>by have:=HW.out;simp at hy;omega)⟩;have hv8:Value.int .u8 (v:Int)=byteV (u8 v):=by unfold byteV;rw[toNat_u8 (by have:=HX.out;rw[←hv];simp[uLead];omega)]
    rw[hv8];have:=H2.out.1.store 0 (byteV (u8 v));rw[byC_set,←hv]at this;rw[←uFill_end h HN.out.1];rw[←hv];rw[HR.out.1]at this ⊢
    exact this
end Go.Proofs.YtahbikfbjenfpaaGreatDoor
