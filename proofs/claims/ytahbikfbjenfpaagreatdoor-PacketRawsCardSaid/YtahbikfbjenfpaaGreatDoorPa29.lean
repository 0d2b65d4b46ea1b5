/- Package length: the bytes of a length. Package length: a length read. Reference 15: the bytes of a length. -/
import Derived.Test.YtahbikfbjenfpaaGreatDoorPa28
import Derived.Laws.Bits128
import Derived.Lib.VarintBits

namespace Go.Proofs.YtahbikfbjenfpaaGreatDoor
open Go.RowKit

theorem own_low {w:World}{B B' :Nat}{e:TypeId}{v:Value}{n:Nat}{xs:List Value}(h:w.ownsRow B e 1 v n xs)(hB:B' ≤B):w.ownsRow B' e 1 v n xs:=by
 obtain⟨h1,h2⟩:=h;refine⟨h1, ?_⟩
 rcases h2 with h2 | ⟨g,cap,cur,e1,e2,h3⟩
 ·exact .inl h2
 ·exact .inr ⟨g,cap,cur,e1,Nat.le_trans hB e2,h3⟩
def lnNext (m:Nat):UInt8:=lnB (m % 128+if 128≤m then 128 else 0)
theorem lnRaw_step {n j:Nat}(h:n < 268435456)(hj:j < lnSize n):(lnRaw n).take (j+1)=(lnRaw n).take j++ [lnNext (n / 128^j)]:=by
 have hl:=lnRaw_length n;rw[List.take_succ_eq_append_getElem (by omega)]
 congr 2
 unfold lnSize at hj;unfold lnNext
 by_cases h1:n < 128
 ·have e:lnRaw n= [lnB n]:=by unfold lnRaw;rw[if_pos h1]
  rw[if_pos h1]at hj;have hj0:j=0:=by omega
  subst hj0;simp only[e,List.getElem_cons_zero,Nat.pow_zero,Nat.div_one];rw[if_neg (by omega),Nat.mod_eq_of_lt h1,Nat.add_zero]
 ·rw[if_neg h1]at hj
  by_cases h2:n < 16384
  ·have e:lnRaw n= [lnB (n % 128+128),lnB (n / 128)]:=by unfold lnRaw;rw[if_neg h1,if_pos h2]
   rw[if_pos h2]at hj;have:j=0∨j=1:=by omega
   rcases this with rfl | rfl
   ·simp only[e,List.getElem_cons_zero,Nat.pow_zero,Nat.div_one]
    rw[if_pos (by omega)]
   ·simp only[e,List.getElem_cons_succ,List.getElem_cons_zero,Nat.pow_one]
    rw[if_neg (by omega),Nat.mod_eq_of_lt (by omega),Nat.add_zero]
  ·rw[if_neg h2]at hj
   by_cases h3:n < 2097152
   ·have e:lnRaw n= [lnB (n % 128+128),lnB (n / 128 % 128+128),lnB (n / 16384)]:=by unfold lnRaw;rw[if_neg h1,if_neg h2,if_pos h3]
    rw[if_pos h3]at hj;have:j=0∨j=1∨j=2:=by omega
    rcases this with rfl | rfl | rfl
    ·simp only[e,List.getElem_cons_zero,Nat.pow_zero,Nat.div_one]
     rw[if_pos (by omega)]
    ·simp only[e,List.getElem_cons_succ,List.getElem_cons_zero,Nat.pow_one]
     rw[if_pos (by omega)]
    ·simp only[e,List.getElem_cons_succ,List.getElem_cons_zero,show(128:Nat)^2=16384 by decide]
     rw[if_neg (by omega),Nat.mod_eq_of_lt (by omega),Nat.add_zero]
   ·have e:lnRaw n= [lnB (n % 128+128),lnB (n / 128 % 128+128),lnB (n / 16384 % 128+128),lnB (n / 2097152)]:=by unfold lnRaw;rw[if_neg h1,if_neg h2,if_neg h3]
    rw[if_neg h3]at hj;have:j=0∨j=1∨j=2∨j=3:=by omega
    rcases this with rfl | rfl | rfl | rfl
    ·simp only[e,List.getElem_cons_zero,Nat.pow_zero,Nat.div_one]
     rw[if_pos (by omega)]
    ·simp only[e,List.getElem_cons_succ,List.getElem_cons_zero,Nat.pow_one]
     rw[if_pos (by omega)]
    ·simp only[e,List.getElem_cons_succ,List.getElem_cons_zero,show(128:Nat)^2=16384 by decide]
     rw[if_pos (by omega)]
    ·simp only[e,List.getElem_cons_succ,List.getElem_cons_zero,show(128:Nat)^3=2097152 by decide]
     rw[if_neg (by omega),Nat.mod_eq_of_lt (by omega),Nat.add_zero]
theorem u8_or128 (x:Nat)(h:x < 128):bits BinOp.or IntKind.u8 ((x:Nat):Int) 128=((x+128:Nat):Int):=by
 have:∀x:Fin 128,bits BinOp.or IntKind.u8 ((x.val:Nat):Int) 128=((x.val+128:Nat):Int):=by decide+kernel
 exact this ⟨x,h⟩
set_option maxRecDepth 100000 in
set_option maxHeartbeats 1000000 in
theorem lnBytes1_any (w:World)(bx:Nat)(m:Nat)(hm:m < 268435456)(hb:Row w bx 2 #[.int .i64 m]):
  Calls Tryz.prog 161 #[.pointer (some ⟨bx,0,none⟩)] w fun e w' =>e= .returned (.int .u8 ((lnNext m).toNat:Nat))∧Row w' bx 2 #[.int .i64 (m / 128:Nat)]∧Keeps w w' [bx]:=by
 have c:=hb.cell 0;have f:=hb.frozen 0;simp only[zga,zgz]at c;have e1:=i64_and127 (m:Int);have hx0:=u8_or128 (m % 128) (Nat.mod_lt _ (by omega));have hx:bits BinOp.or IntKind.u8 ((m:Int) % 128) 128=(m:Int) % 128+128:=by
  rw[show((m:Int) % 128)=((m % 128:Nat):Int)by omega,hx0];omega
 have e4:((m:Int) % 128) % 256=(m:Int) % 128:=by omega
 have HQ:=zh (show(((m / 128:Nat):Nat):Int)=(m:Int) / 128 by omega);rw[HQ.out];obtain⟨W1,hW1⟩:∃W1,w.setCell ⟨bx,0,none⟩ (.int .i64 ((m:Int) / 128))=W1:=⟨_,rfl⟩;have h1:Row W1 bx 2 #[.int .i64 ((m:Int) / 128)]:=by rw[←hW1];simpa using hb.store 0 (.int .i64 ((m:Int) / 128))
 have k1:Keeps w W1 [bx]:=by rw[←hW1];exact Keeps.setCell _ _ _
 have c1:=h1.cell 0;simp only[zga,zgz]at c1;have H1:=zh (And.intro h1 k1);clear h1 k1 hb hx0
 by_cases h:128≤m
 ·have HN:=zh (show byteV (lnNext m)= .int .u8 ((m:Int) % 128+128)by
   unfold lnNext byteV;rw[if_pos h,lnB_val (by omega)]
   congr 1)
  have hd:decide (((m:Int) / 128) > 0)=true:=decide_eq_true (by omega);rw[show(Value.int .u8 ((lnNext m).toNat:Nat))=_ from HN.out]
  go_enter Tryz.func161,Tryz.ntmps161
  go_wp2_with fail
  go_ret;exact⟨rfl,H1.out⟩
 ·have HN:=zh (show byteV (lnNext m)= .int .u8 ((m:Int) % 128)by
   unfold lnNext byteV;rw[if_neg h,Nat.add_zero,lnB_val (by omega)]
   congr 1)
  have hd:decide (((m:Int) / 128) > 0)=false:=decide_eq_false (by omega);rw[show(Value.int .u8 ((lnNext m).toNat:Nat))=_ from HN.out]
  go_enter Tryz.func161,Tryz.ntmps161
  go_wp2_with fail
  go_ret;exact⟨rfl,H1.out⟩
set_option maxRecDepth 100000 in
set_option maxHeartbeats 400000 in
theorem lnAll1_any (w:World)(n:Int):Calls Tryz.prog 144 #[.int .i64 n] w (TruePost w (!(decide (0≤n) && decide (n≤268435455)))):=by
 obtain⟨q,hq⟩:∃q,(decide (0≤n) && decide (n≤268435455))=q:=⟨_,rfl⟩;have H:=zh (lnMay_any w n);rw[hq]at H ⊢
 go_enter Tryz.func144,Tryz.ntmps144
 go_wp2_with fail
 refine H.out.mono ?_;rintro e w1 ⟨rfl,rfl⟩
 go_wp2_with fail
 go_ret;exact⟨by cases q <;> rfl,Keeps.refl _ _⟩
set_option maxRecDepth 100000 in
set_option maxHeartbeats 400000 in
theorem lnBytes_any (w:World)(n:Int):Calls Tryz.prog 146 #[.int .i64 n] w fun e w' =>e= .returned (.func (.func 161) #[] #[.pointer (some ⟨w.heap.size,0,none⟩)])∧w' =w.alloc (.cells #[.int .i64 n] 2):=by
 have hmf:∀(fn:Fn) (first cap:Array Value) (w:World),(Instr.makeFunc fn first cap).run Tryz.prog w= .ok (.func fn first cap) w:=fun _ _ _ _=>rfl
 go_enter Tryz.func146,Tryz.ntmps146
 go_wp2_with fail
 go_ret;exact⟨rfl,rfl⟩
set_option maxRecDepth 100000 in
set_option maxHeartbeats 400000 in
theorem lnCon_any (w:World)(A:Option Addr)(c:Nat)(l:List Int)(hL:Lies w w.heap.size A (l.map fun x=> .int .i64 x))(hl:l.length≤1000000):
  Calls Tryz.prog 143 #[.slice A l.length c,.func (.func 144) #[] #[]] w (TruePost w (l.any fun n=> !(decide (0≤n) && decide (n≤268435455)))):=by
 have H:=zh (idxMay_any w 0 A c l _ hL hl (fun W _ x _=>lnAll1_any W x));have HA:=zh (fIdx_any (fun n:Int=> !(decide (0≤n) && decide (n≤268435455))) l)
 generalize fIdx (fun n:Int=> !(decide (0≤n) && decide (n≤268435455))) l=i at H HA
 clear hL;obtain⟨q,hq⟩:∃q,(l.any fun n=> !(decide (0≤n) && decide (n≤268435455)))=q:=⟨_,rfl⟩;rw[hq]at HA ⊢
 have hi:=HA.out
 go_enter Tryz.func143,Tryz.ntmps143
 go_wp2_with fail
 refine H.out.mono ?_;rintro e w1 ⟨rfl,hk⟩;have HK:=zh hk;clear hk
 go_wp2_with fail
 go_ret;exact⟨rfl,HK.out⟩
set_option maxRecDepth 100000 in
set_option maxHeartbeats 4000000 in
theorem lnAll_any (w:World)(bl:Nat)(n:Nat)(h:n < 268435456)(hb:Row w bl 2 #[.int .i64 n]):Calls Tryz.prog 91 #[.slice (some ⟨bl,0,none⟩) 1 1] w fun e w' =>∃v,e= .returned (.tuple #[v,.int .i64 0])∧Owned w' w.heap.size v (lnRaw n)∧Keeps w w' []:=by
 have hL:Lies w w.heap.size (some ⟨bl,0,none⟩) ([(n:Int)].map fun x=> .int .i64 x):=fun _=>⟨bl,0,rfl,hb.lt,fun j u hu=>by
  rw[Nat.zero_add,hb.cell j,←hu];simp only[zga,List.map_cons,List.map_nil]⟩
 have HC:=zh (lnCon_any w (some ⟨bl,0,none⟩) 1 [(n:Int)] hL (by simp));rw[show([(n:Int)].any fun n=> !(decide (0≤n) && decide (n≤268435455)))=false by simp;omega]at HC;have HB:=zh hb;have HS:=zh (fun w=>lnSize_any w (n:Int) (by omega));rw[Int.toNat_natCast]at HS;have HLn:=zh (lnRaw_length n);have HSt:=zh (fun j h2=>lnRaw_step (n:=n) (j:=j) h h2);obtain⟨R,hR⟩:∃R,lnRaw n=R:=⟨_,rfl⟩;obtain⟨k,hk⟩:∃k,lnSize n=k:=⟨_,rfl⟩;have hk4:k≤4:=by rw[←hk];exact(lnSize_le n).2
 rw[hR]at HLn HSt ⊢
 rw[hk]at HS HLn HSt;clear hb hL hR hk
 go_enter Tryz.func91,Tryz.ntmps91
 go_wp2_with fail
 go_step3
 go_wp2_with fail
 refine HC.out.mono ?_;rintro e w1 ⟨rfl,hk1⟩;have HK1:=zh hk1;clear hk1
 go_wp2_with fail
 go_loopw [2,11] (fun v i wr=>(i= .int .i64 0∧v= .slice none 0 0∧Hid (Keeps w wr []))∨(i= .int .i64 1∧Hid (Owned wr w.heap.size v R∧Keeps w wr []))) (fun _ i _=>1 - (intOf i).toNat)
 case atStart=>exact .inl ⟨rfl,rfl,zh HK1.out⟩
 case round=>
  rcases hrel with⟨rfl,rfl,HK⟩ | ⟨rfl,HK⟩
  ·have c0:=(HB.out.keeps HK.out).cell 0
   simp only[zga,zgz]at c0
   go_wp2_with fail
   refine(lnBytes_any _ _).mono ?_;rintro e w2 ⟨rfl,hw2⟩;have r2:Row w2 wr.heap.size 2 #[.int .i64 n]:=by rw[hw2];exact Row.new _ _ _
   have k2:Keeps wr w2 []:=by rw[hw2];exact Keeps.alloc _ _
   have H2:=zh (And.intro r2 (HK.out.then_ k2));clear r2 k2 hw2 c0
   go_wp2_with fail
   refine(HS.out _).mono ?_;rintro e w3 ⟨rfl,hk3⟩;obtain⟨bx,hbx⟩:∃bx,wr.heap.size=bx:=⟨_,rfl⟩;have hwb:w.heap.size≤bx:=by rw[←hbx];exact HK.out.size
   rw[hbx]at H2 ⊢
   have H3:=zh (And.intro (H2.out.1.keeps hk3) (H2.out.2.then_ hk3));clear hk3
   go_wp2_with fail
   go_loopw [2,19] (fun v i wr' =>∃j:Nat,j≤k∧i= .int .i64 j∧Hid (Owned wr' w.heap.size v (R.take j)∧Row wr' bx 2 #[.int .i64 (n / 128^j:Nat)]∧Keeps w wr' [])) (fun _ i _=>k - (intOf i).toNat)
   case atStart=>exact⟨0,by omega,rfl,zh ⟨World.ownsRow_nil _ _ _ _,by simpa using H3.out.1,H3.out.2⟩⟩
   case round=>
    obtain⟨j,hj,rfl,HJ⟩:=hrel;obtain⟨L,hLe⟩:∃L,R.take j=L:=⟨_,rfl⟩;have HLL:=zh (show L.length=j from by rw[←hLe,List.length_take];have:=HLn.out;omega);have HLE:=zh hLe;rw[hLe]at HJ;clear hLe;obtain⟨A,c,rfl,_⟩:=HJ.out.1.parts
    by_cases hjk:j < k
    ·have hm:n / 128^j < 268435456:=Nat.lt_of_le_of_lt (Nat.div_le_self _ _) h
     have hst:=HSt.out j hjk;rw[HLE.out]at hst
     go_wp2_with fail
     refine(lnBytes1_any _ bx (n / 128^j) hm HJ.out.2.1).mono ?_;rintro e w5 ⟨rfl,hr5,hk5⟩;have nb:=own_ne_row HJ.out.1 HJ.out.2.1 (by decide);have ho5:=own_keep HJ.out.1 hk5 (fun g hg=>by rw[hg]at nb;simpa using nb)
     generalize lnNext (n / 128^j)=y at hst
     obtain⟨Wb,hWb⟩:∃Wb,w5.alloc (.cells #[.int .u8 (y.toNat:Nat)] 5)=Wb:=⟨_,rfl⟩;have kb:Keeps w5 Wb []:=by rw[←hWb];exact Keeps.alloc _ _
     have rb:Bytes Wb Wb.heap.size (.slice (some ⟨w5.heap.size,0,none⟩) 1 1) [y]:=by
      rw[←hWb];exact⟨some ⟨w5.heap.size,0,none⟩,1,rfl,by simp,(fun h=>by cases h),by simp[maxLen],by simp,fun _=>⟨w5.heap.size,0,rfl,by simp,fun i u hu=>by
       rw[Nat.zero_add,(Row.new w5 _ _).cell i,←hu];simp only[zga,List.map_cons,List.map_nil,byteV]⟩⟩
     have HA:=zh (And.intro (own_keep ho5 kb (by simp)) (And.intro rb (And.intro (hr5.keeps kb) ((HJ.out.2.2.trans hk5 (fun x hx hlt=>by simp at hx;omega)).then_ kb))));have hbs:w.heap.size≤Wb.heap.size:=HA.out.2.2.2.size;clear nb ho5 kb rb hr5 hk5 hm
     go_wp2_with (at_builtin;refine Hid.out ?_)
     refine zh ?_;refine wpList_append_bytes _ rfl (.tmp 21) (.tmp 24) rfl w.heap.size (.slice A L.length c) (.slice (some ⟨w5.heap.size,0,none⟩) 1 1) L [y] rfl rfl HA.out.1 HA.out.2.1 (by have:=HLL.out;simp;omega) hbs ?_;intro A3 c3 w6 l3 E3 hl3 ho6 hk6 hb6;have e3:l3=R.take (j+1):=E3.out.trans hst.symm;have nb:=own_ne_row HA.out.1 HA.out.2.2.1 (by decide);have hr6:=HA.out.2.2.1.keep hk6 (by simpa using nb);have H6:=zh (And.intro ho6 (And.intro hr6 (HA.out.2.2.2.trans hk6 (fun x hx hlt=>by have:=(HA.out.1.lt x (by simpa using hx)).1;omega))));have E4:=zh e3.symm;clear e3 E3 ho6 hk6 hb6 nb hr6 HA hWb hbs hst
     go_wp2_with fail
     exact⟨⟨j+1,by omega,by go_num,zh ⟨by rw[E4.out];exact H6.out.1,by rw[Nat.pow_succ,←Nat.div_div_eq_div_mul];exact H6.out.2.1,H6.out.2.2⟩⟩,by simp[intOf];omega⟩
    ·obtain rfl:j=k:=by omega
     have e:L=R:=by rw[←HLE.out];exact List.take_of_length_le (by have:=HLn.out;omega)
     subst e
     go_wp2_with fail
     exact⟨.inr ⟨rfl,zh ⟨HJ.out.1,HJ.out.2.2⟩⟩,by simp[intOf]⟩
  ·obtain⟨A,c,rfl,_⟩:=HK.out.1.parts
   go_wp2_with fail
   rw[Exit.noGoto_ret]
   go_ret2
   exact⟨_,rfl,HK.out⟩
set_option maxRecDepth 100000 in
set_option maxHeartbeats 1000000 in
theorem lnRaw_any (w:World)(n:Nat)(h:n < 268435456):Calls Tryz.prog 24 #[.int .i64 n] w fun e w' =>∃v,e= .returned (.tuple #[v,.int .i64 0])∧Owned w' w.heap.size v (lnRaw n)∧Keeps w w' []:=by
 obtain⟨W0,hW0⟩:∃W0,w.alloc (.cells #[.int .i64 n] 2)=W0:=⟨_,rfl⟩;have k0:Keeps w W0 []:=by rw[←hW0];exact Keeps.alloc _ _
 have r0:Row W0 w.heap.size 2 #[.int .i64 n]:=by rw[←hW0];exact Row.new _ _ _
 have HA:=zh (lnAll_any W0 w.heap.size n h r0);have HK:=zh k0;clear k0 r0
 go_enter Tryz.func24,Tryz.ntmps24
 go_wp2_with fail
 refine HA.out.mono ?_;rintro e w1 ⟨v,rfl,ho,hk⟩;have H1:=zh (And.intro (own_low ho HK.out.size) (HK.out.then_ hk));clear ho hk hW0
 go_wp2_with fail
 go_ret2
 exact⟨v,rfl,H1.out⟩

/-- The number that bytes tell. -/
def tkVal:List UInt8→Nat
 | []=>0
 | x::l=>x.toNat % 128+128*tkVal l
theorem tkVal_snoc (l:List UInt8)(x:UInt8):tkVal (l++ [x])=tkVal l+x.toNat % 128*128^l.length:=by
 induction l with
 | nil=>simp[tkVal]
 | cons a l ih=>
  rw[List.cons_append,tkVal,ih,tkVal,List.length_cons,Nat.pow_succ,Nat.mul_add];rw[show 128*(x.toNat % 128*128^l.length)=x.toNat % 128*(128^l.length*128)by rw[Nat.mul_comm,Nat.mul_assoc]];omega
theorem tkVal_lt (l:List UInt8):tkVal l < 128^l.length:=by
 induction l with
 | nil=>simp[tkVal]
 | cons a l ih=>
  rw[tkVal,List.length_cons,Nat.pow_succ];have:=Nat.mod_lt a.toNat (show 128 > 0 by omega);omega
theorem i64_or_nat (a b:Nat)(ha:a < 4611686018427387904)(hb:b < 4611686018427387904):bits .or .i64 (a:Int) (b:Int)=((a ||| b:Nat):Int):=by
 have hx:a ||| b < 2^62:=Nat.or_lt_two_pow (by omega) (by omega)
 show IntKind.i64.wrap ((BitVec.ofInt 64 (a:Int) ||| BitVec.ofInt 64 (b:Int)).toNat:Int)=_;rw[BitVec.toNat_or,ofInt_u64 a (by omega),ofInt_u64 b (by omega),IntKind.wrap_i64];omega
theorem tk_or (n y j:Nat)(hn:n < 128^j)(hy:y < 128)(hj:j≤3):bits .or .i64 (n:Int) ((y:Int)*128^j)=((n+y*128^j:Nat):Int):=by
 have h1:(128:Nat)^j≤2097152:=by
  have:j=0∨j=1∨j=2∨j=3:=by omega
  rcases this with rfl | rfl | rfl | rfl <;> decide
 have h2:y*128^j≤127*2097152:=Nat.mul_le_mul (by omega) h1;have e:((y:Int)*128^j)=((y*128^j:Nat):Int):=by rw[Int.natCast_mul,Int.natCast_pow];rfl
 rw[e,i64_or_nat _ _ (by omega) (by omega),Nat.or_comm]
 congr 1
 have e2:(128:Nat)^j=2^(7*j):=by rw[Nat.pow_mul]
 rw[e2]at hn ⊢
 rw[nat_join (7*j) (y*2^(7*j)) n (Nat.mul_mod_left _ _) hn,Nat.add_comm]
theorem tk_shl (x j:Nat)(hj:j≤3):wrap64 ((x:Int) % 128*2^(7*j))=(x:Int) % 128*128^j:=by
 have:j=0∨j=1∨j=2∨j=3:=by omega
 rcases this with rfl | rfl | rfl | rfl <;> (unfold wrap64;simp;omega)
set_option maxRecDepth 100000 in
set_option maxHeartbeats 1000000 in
theorem lnTaken_any (w:World)(A:Option Addr)(c:Nat)(l:List UInt8)(hl:l.length≤4)(hL:Lies w w.heap.size A (l.map byteV)):Calls Tryz.prog 98 #[.slice A l.length c] w fun e w' =>e= .returned (.int .i64 (tkVal l:Nat))∧w=w' :=by
 go_enter Tryz.func98,Tryz.ntmps98
 go_wp2_with fail
 go_loop [3,9] (fun n i=>∃j:Nat,j≤l.length∧i= .int .i64 j∧n= .int .i64 (tkVal (l.take j):Nat)) (fun _ i=>l.length - (intOf i).toNat)
 case atStart=>exact⟨0,by omega,rfl,rfl⟩
 case round=>
  obtain⟨j,hj,rfl,rfl⟩:=hrel
  by_cases hjl:j < l.length
  ·obtain⟨b,o,rfl,hb,hcx⟩:=hL.at_ (k:=j) (by simpa using hjl)
   rw[byteV_get l hjl]at hcx;have hs:=tkVal_snoc (l.take j) l[j];have hlt:=tkVal_lt (l.take j);rw[←List.take_succ_eq_append_getElem hjl]at hs;rw[List.length_take,Nat.min_eq_left (by omega)]at hs hlt;have hx:=l[j].toNat_lt;have h127:=u8_and127 (x:=(l[j].toNat:Int)) (by omega) (by omega);have ho:=tk_or (tkVal (l.take j)) (l[j].toNat % 128) j hlt (Nat.mod_lt _ (by omega)) (by omega);rw[show(((l[j].toNat % 128:Nat):Nat):Int)=(l[j].toNat:Int) % 128 by omega,←hs]at ho;have HL:=zh hL;clear hL hs hlt
   generalize l[j].toNat=x at*
   generalize tkVal (l.take j)=N at*
   have HW:=zh (tk_shl x j (by omega));have HO:=zh ho;clear ho
   go_wp2_with fail
   exact⟨⟨j+1,by omega,by go_num,by rw[HW.out,HO.out]⟩,by simp[intOf];omega⟩
  ·obtain rfl:j=l.length:=by omega
   rw[List.take_length]
   go_wp2_with fail
   go_ret;exact⟨rfl,rfl⟩
set_option maxRecDepth 100000 in
set_option maxHeartbeats 400000 in
theorem lnRead1_any (w:World)(x:UInt8):Calls Tryz.prog 97 #[byteV x] w (TruePost w (decide (x.toNat < 128))):=by
 unfold byteV;obtain⟨q,hq⟩:∃q,decide (x.toNat < 128)=q:=⟨_,rfl⟩;have hd:decide ((x.toNat:Int) < 128)=q:=by rw[←hq,decide_eq_decide];omega
 rw[hq];clear hq
 go_enter Tryz.func97,Tryz.ntmps97
 go_wp2_with fail
 go_ret;exact⟨rfl,Keeps.refl _ _⟩
/-- What reading a length answers. -/
def lnAns (l:List UInt8):Value:=match lnRd l with
 | none=> .tuple #[.int .i64 0,.int .i64 0,.int .i64 250]
 | some none=> .tuple #[.int .i64 0,.int .i64 0,.int .i64 0]
 | some (some (n,s))=> .tuple #[.int .i64 (n:Nat),.int .i64 (s:Nat),.int .i64 0]
/-- How the program finds it. -/
theorem lnRd_way (l:List UInt8):(∃k,fIdx (fun x:UInt8=>decide (x.toNat < 128)) (l.take 4)=(k:Nat)∧k < l.length∧k < 4∧tkVal (l.take (k+1)) < 268435456∧
   ((lnSize (tkVal (l.take (k+1)))=k+1∧lnRd l=some (some (tkVal (l.take (k+1)),k+1)))∨(lnSize (tkVal (l.take (k+1)))≠k+1∧lnRd l=none)))∨
  (fIdx (fun x:UInt8=>decide (x.toNat < 128)) (l.take 4)= -1∧((l.length≥4∧lnRd l=none)∨(l.length < 4∧lnRd l=some none))):=by
 have hsz:∀n,lnSize n=if n < 128 then 1 else if n < 16384 then 2 else if n < 2097152 then 3 else 4:=fun n=>rfl
 rcases l with _ | ⟨a,l1⟩
 ·exact .inr ⟨rfl,.inr ⟨by simp,rfl⟩⟩
 have ha:=a.toNat_lt
 by_cases a1:a.toNat < 128
 ·refine .inl ⟨0,by simp[fIdx,List.findIdx?_cons,a1],by simp,by omega,by simp[tkVal];omega,.inl ⟨?_, ?_⟩⟩
  ·simp only[Nat.zero_add,zts,ztz,tkVal,hsz]
   rw[if_pos (by omega)]
  ·simp[lnRd,a1,tkVal,Nat.mod_eq_of_lt a1]
 rcases l1 with _ | ⟨b,l2⟩
 ·exact .inr ⟨by simp[fIdx,List.findIdx?_cons,a1],.inr ⟨by simp,by simp[lnRd,a1]⟩⟩
 have hb:=b.toNat_lt
 by_cases b1:b.toNat < 128
 ·refine .inl ⟨1,by simp[fIdx,List.findIdx?_cons,a1,b1],by simp,by omega,by simp[tkVal];omega, ?_⟩
  by_cases b0:b.toNat=0
  ·refine .inr ⟨?_,by simp[lnRd,a1,b0]⟩
   simp only[zts,ztz,tkVal,hsz];rw[if_pos (by omega)];omega
  ·refine .inl ⟨?_, ?_⟩
   ·simp only[zts,ztz,tkVal,hsz]
    rw[if_neg (by omega),if_pos (by omega)]
   ·simp only[lnRd,a1,b1,b0,if_true,if_false,zts,ztz,tkVal]
    congr 3
    omega
 rcases l2 with _ | ⟨c,l3⟩
 ·exact .inr ⟨by simp[fIdx,List.findIdx?_cons,a1,b1],.inr ⟨by simp,by simp[lnRd,a1,b1]⟩⟩
 have hc:=c.toNat_lt
 by_cases c1:c.toNat < 128
 ·refine .inl ⟨2,by simp[fIdx,List.findIdx?_cons,a1,b1,c1],by simp,by omega,by simp[tkVal];omega, ?_⟩
  by_cases c0:c.toNat=0
  ·refine .inr ⟨?_,by simp[lnRd,a1,b1,c0]⟩
   simp only[zts,ztz,tkVal,hsz]
   split
   ·omega
   ·rw[if_pos (by omega)];omega
  ·refine .inl ⟨?_, ?_⟩
   ·simp only[zts,ztz,tkVal,hsz]
    rw[if_neg (by omega),if_neg (by omega),if_pos (by omega)]
   ·simp only[lnRd,a1,b1,c1,c0,if_true,if_false,zts,ztz,tkVal]
    congr 3
    omega
 rcases l3 with _ | ⟨d,l4⟩
 ·exact .inr ⟨by simp[fIdx,List.findIdx?_cons,a1,b1,c1],.inr ⟨by simp,by simp[lnRd,a1,b1,c1]⟩⟩
 have hd:=d.toNat_lt
 by_cases d1:d.toNat < 128
 ·refine .inl ⟨3,by simp[fIdx,List.findIdx?_cons,a1,b1,c1,d1],by simp,by omega,by simp[tkVal];omega, ?_⟩
  by_cases d0:d.toNat=0
  ·refine .inr ⟨?_,by simp[lnRd,a1,b1,c1,d0]⟩
   simp only[zts,ztz,tkVal,hsz]
   split
   ·omega
   ·split
    ·omega
    ·rw[if_pos (by omega)];omega
  ·refine .inl ⟨?_, ?_⟩
   ·simp only[zts,ztz,tkVal,hsz]
    rw[if_neg (by omega),if_neg (by omega),if_neg (by omega)]
   ·simp only[lnRd,a1,b1,c1,d1,d0,if_true,if_false,zts,ztz,tkVal]
    congr 3
    omega
 ·exact .inr ⟨by simp[fIdx,List.findIdx?_cons,a1,b1,c1,d1],.inl ⟨by simp,by simp[lnRd,a1,b1,c1,d1]⟩⟩
set_option maxRecDepth 100000 in
set_option maxHeartbeats 2000000 in
theorem lnRead_any (w:World)(A:Option Addr)(c:Nat)(l:List UInt8)(hl:l.length≤1000000)(hc:l.length≤c)(hL:Lies w w.heap.size A (l.map byteV)):Calls Tryz.prog 31 #[.slice A l.length c] w fun e w' =>e= .returned (lnAns l)∧Keeps w w' []:=by
 have hmin:(l.take 4).length=min l.length 4:=by rw[List.length_take,Nat.min_comm]
 have HI:=zh (idxByte_any w 0 A c (l.take 4) (fun x=>decide (x.toNat < 128)) (by rw[List.map_take];exact hL.take 4) (by omega) (fun W _ x _=>lnRead1_any W x));rw[hmin]at HI;have HT:=zh (fun k (W:World) (hk:Keeps w W [])=>lnTaken_any W A c (l.take k))
 by_cases h4le:(l.length:Int)≤4
 ·rw[show min l.length 4=l.length by omega]at HI
  rcases lnRd_way l with⟨k,h1,h2,h3,h4,h5⟩ | ⟨h1,h2⟩
  ·rw[h1]at HI
   have hk1:(l.take (k+1)).length=k+1:=by rw[List.length_take];omega
   have HT:=zh (fun W (hk:Keeps w W [])=>lnTaken_any W A c (l.take (k+1)) (by omega) (by rw[List.map_take];exact(hL.keeps hk).take (k+1)));rw[hk1]at HT;have HS:=zh (fun w=>lnSize_any w (tkVal (l.take (k+1)):Nat) (by omega));rw[Int.toNat_natCast]at HS;have H5:=zh h5
   generalize tkVal (l.take (k+1))=n at*
   have hd:decide ((k:Int) < 0)=false:=decide_eq_false (by omega);clear h1 h4 h5 hL hmin hk1
   go_enter Tryz.func31,Tryz.ntmps31
   go_wp2_with fail
   refine HI.out.mono ?_;rintro e w1 ⟨rfl,hk⟩;have HK:=zh hk;clear hk
   go_wp2_with fail
   refine(HT.out _ HK.out).mono ?_;rintro e w2 ⟨rfl,rfl⟩
   go_wp2_with fail
   refine(HS.out _).mono ?_;rintro e w3 ⟨rfl,hk⟩;replace HK:=zh (HK.out.then_ hk);clear hk
   rcases H5.out with⟨e1,e2⟩ | ⟨e1,e2⟩
   ·have hq:(((lnSize n:Nat):Int) !=(k:Int)+1)=false:=by simp;omega
    have HA:=zh e2;clear e1 e2
    go_wp2_with fail
    refine bodyPost_ret (v:= .tuple #[.int .i64 (n:Nat),.int .i64 ((k:Int)+1),.int .i64 0]) (by simp[results,Tryz.results31,go_sem]) rfl ⟨?_,HK.out⟩;unfold lnAns;rw[HA.out];rfl
   ·have hq:(((lnSize n:Nat):Int) !=(k:Int)+1)=true:=by simp;omega
    have HA:=zh e2;clear e1 e2
    go_wp2_with fail
    refine bodyPost_ret (v:= .tuple #[.int .i64 0,.int .i64 0,.int .i64 250]) (by simp[results,Tryz.results31,go_sem]) rfl ⟨?_,HK.out⟩;unfold lnAns;rw[HA.out]
  ·rw[h1]at HI
   have H2:=zh h2;clear h1 h2 hL hmin HT;have hd:decide ((-1:Int) < 0)=true:=rfl
   rcases H2.out with⟨e1,e2⟩ | ⟨e1,e2⟩
   ·have hq:decide ((l.length:Int)≥4)=true:=decide_eq_true (by omega)
    have HA:=zh e2;clear e1 e2
    go_enter Tryz.func31,Tryz.ntmps31
    go_wp2_with fail
    refine HI.out.mono ?_;rintro e w1 ⟨rfl,hk⟩;have HK:=zh hk;clear hk
    go_wp2_with fail
    refine bodyPost_ret (v:= .tuple #[.int .i64 0,.int .i64 0,.int .i64 250]) (by simp[results,Tryz.results31,go_sem]) rfl ⟨?_,HK.out⟩;unfold lnAns;rw[HA.out]
   ·have hq:decide ((l.length:Int)≥4)=false:=decide_eq_false (by omega)
    have HA:=zh e2;clear e1 e2
    go_enter Tryz.func31,Tryz.ntmps31
    go_wp2_with fail
    refine HI.out.mono ?_;rintro e w1 ⟨rfl,hk⟩;have HK:=zh hk;clear hk
    go_wp2_with fail
    refine bodyPost_ret (v:= .tuple #[.int .i64 0,.int .i64 0,.int .i64 0]) (by simp[results,Tryz.results31,go_sem]) rfl ⟨?_,HK.out⟩;unfold lnAns;rw[HA.out]
 ·rw[show min l.length 4=4 by omega]at HI
  have hge4:(4:Int)≤l.length:=by omega
  rcases lnRd_way l with⟨k,h1,h2,h3,h4,h5⟩ | ⟨h1,h2⟩
  ·rw[h1]at HI
   have hk1:(l.take (k+1)).length=k+1:=by rw[List.length_take];omega
   have HT:=zh (fun W (hk:Keeps w W [])=>lnTaken_any W A c (l.take (k+1)) (by omega) (by rw[List.map_take];exact(hL.keeps hk).take (k+1)));rw[hk1]at HT;have HS:=zh (fun w=>lnSize_any w (tkVal (l.take (k+1)):Nat) (by omega));rw[Int.toNat_natCast]at HS;have H5:=zh h5
   generalize tkVal (l.take (k+1))=n at*
   have hd:decide ((k:Int) < 0)=false:=decide_eq_false (by omega);clear h1 h4 h5 hL hmin hk1
   go_enter Tryz.func31,Tryz.ntmps31
   go_wp2_with fail
   refine HI.out.mono ?_;rintro e w1 ⟨rfl,hk⟩;have HK:=zh hk;clear hk
   go_wp2_with fail
   refine(HT.out _ HK.out).mono ?_;rintro e w2 ⟨rfl,rfl⟩
   go_wp2_with fail
   refine(HS.out _).mono ?_;rintro e w3 ⟨rfl,hk⟩;replace HK:=zh (HK.out.then_ hk);clear hk
   rcases H5.out with⟨e1,e2⟩ | ⟨e1,e2⟩
   ·have hq:(((lnSize n:Nat):Int) !=(k:Int)+1)=false:=by simp;omega
    have HA:=zh e2;clear e1 e2
    go_wp2_with fail
    refine bodyPost_ret (v:= .tuple #[.int .i64 (n:Nat),.int .i64 ((k:Int)+1),.int .i64 0]) (by simp[results,Tryz.results31,go_sem]) rfl ⟨?_,HK.out⟩;unfold lnAns;rw[HA.out];rfl
   ·have hq:(((lnSize n:Nat):Int) !=(k:Int)+1)=true:=by simp;omega
    have HA:=zh e2;clear e1 e2
    go_wp2_with fail
    refine bodyPost_ret (v:= .tuple #[.int .i64 0,.int .i64 0,.int .i64 250]) (by simp[results,Tryz.results31,go_sem]) rfl ⟨?_,HK.out⟩;unfold lnAns;rw[HA.out]
  ·rw[h1]at HI
   have H2:=zh h2;clear h1 h2 hL hmin HT;have hd:decide ((-1:Int) < 0)=true:=rfl
   rcases H2.out with⟨e1,e2⟩ | ⟨e1,e2⟩
   ·have hq:decide ((l.length:Int)≥4)=true:=decide_eq_true (by omega)
    have HA:=zh e2;clear e1 e2
    go_enter Tryz.func31,Tryz.ntmps31
    go_wp2_with fail
    refine HI.out.mono ?_;rintro e w1 ⟨rfl,hk⟩;have HK:=zh hk;clear hk
    go_wp2_with fail
    refine bodyPost_ret (v:= .tuple #[.int .i64 0,.int .i64 0,.int .i64 250]) (by simp[results,Tryz.results31,go_sem]) rfl ⟨?_,HK.out⟩;unfold lnAns;rw[HA.out]
   ·exact absurd e1 (by omega)

theorem lnSize_more {n j:Nat}(h:n < 268435456)(hj:j < lnSize n):(128≤n / 128^j↔j+1 < lnSize n):=by
 have e0:(128:Nat)^0=1:=by decide
 have e1:(128:Nat)^1=128:=by decide
 have e2:(128:Nat)^2=16384:=by decide
 have e3:(128:Nat)^3=2097152:=by decide
 unfold lnSize at hj ⊢
 by_cases h1:n < 128
 ·rw[if_pos h1]at hj ⊢
  obtain rfl:j=0:=by omega
  rw[e0];omega
 ·rw[if_neg h1]at hj ⊢
  by_cases h2:n < 16384
  ·rw[if_pos h2]at hj ⊢
   have:j=0∨j=1:=by omega
   rcases this with rfl | rfl
   ·rw[e0];omega
   ·rw[e1];omega
  ·rw[if_neg h2]at hj ⊢
   by_cases h3:n < 2097152
   ·rw[if_pos h3]at hj ⊢
    have:j=0∨j=1∨j=2:=by omega
    rcases this with rfl | rfl | rfl
    ·rw[e0];omega
    ·rw[e1];omega
    ·rw[e2];omega
   ·rw[if_neg h3]at hj ⊢
    have:j=0∨j=1∨j=2∨j=3:=by omega
    rcases this with rfl | rfl | rfl | rfl
    ·rw[e0];omega
    ·rw[e1];omega
    ·rw[e2];omega
    ·rw[e3];omega
theorem byte_new (w:World)(y:UInt8):Bytes (w.alloc (.cells #[.int .u8 (y.toNat:Nat)] 5)) (w.alloc (.cells #[.int .u8 (y.toNat:Nat)] 5)).heap.size (.slice (some ⟨w.heap.size,0,none⟩) 1 1) [y]:=
 ⟨some ⟨w.heap.size,0,none⟩,1,rfl,by simp,(fun h=>by cases h),by simp[maxLen],by simp,fun _=>⟨w.heap.size,0,rfl,by simp,fun i u hu=>by
  rw[Nat.zero_add,(Row.new w _ _).cell i,←hu];simp only[zga,List.map_cons,List.map_nil,byteV]⟩⟩
set_option maxRecDepth 100000 in
set_option maxHeartbeats 2000000 in
theorem refLnRaw_any (w:World)(n:Nat)(h:n < 268435456):Calls Tryz.prog 36 #[.int .i64 n] w fun e w' =>∃v,e= .returned (.tuple #[v,.bool true])∧Owned w' w.heap.size v (lnRaw n)∧Keeps w w' []:=by
 have d1:decide ((n:Int) < 0)=false:=decide_eq_false (by omega);have d2:decide ((n:Int) > 268435455)=false:=decide_eq_false (by omega);have HLn:=zh (lnRaw_length n);have HSt:=zh (fun j h2=>lnRaw_step (n:=n) (j:=j) h h2);have HMo:=zh (fun j h2=>lnSize_more (n:=n) (j:=j) h h2);have hk4:=lnSize_le n;obtain⟨R,hR⟩:∃R,lnRaw n=R:=⟨_,rfl⟩;obtain⟨k,hk⟩:∃k,lnSize n=k:=⟨_,rfl⟩;rw[hR]at HLn HSt ⊢
 rw[hk]at HLn HSt HMo hk4;clear hR hk
 go_enter Tryz.func36,Tryz.ntmps36
 go_wp2_with fail
 go_loopw [4,0] (fun v m wr=>∃j:Nat,j < k∧m= .int .i64 (n / 128^j:Nat)∧Hid (Owned wr w.heap.size v (R.take j)∧Keeps w wr [])) (fun _ m _=>(intOf m).toNat)
 case atStart=>exact⟨0,by omega,by simp,zh ⟨World.ownsRow_nil _ _ _ _,Keeps.refl _ _⟩⟩
 case round=>
  obtain⟨j,hj,rfl,HJ⟩:=hrel;obtain⟨L,hLe⟩:∃L,R.take j=L:=⟨_,rfl⟩;have HLL:=zh (show L.length=j from by rw[←hLe,List.length_take];have:=HLn.out;omega);have hst:=HSt.out j hj;rw[hLe]at HJ hst;clear hLe;obtain⟨A,c,rfl,_⟩:=HJ.out.1.parts;have hm:n / 128^j < 268435456:=Nat.lt_of_le_of_lt (Nat.div_le_self _ _) h;have hmo:=HMo.out j hj;have HN:=zh (show n / 128^(j+1)=n / 128^j / 128 by rw[Nat.pow_succ,←Nat.div_div_eq_div_mul])
  generalize n / 128^j=m at*
  have HST:=zh hst;clear hst
  by_cases hge:128≤m
  ·have hd:decide ((m:Int)≥128)=true:=decide_eq_true (by omega)
   have hy:128+(m:Int) % 128=((lnNext m).toNat:Int):=by
    unfold lnNext;rw[if_pos hge,lnB_val (by omega)];omega
   generalize lnNext m=y at hy HST
   have hj2:=hmo.1 hge;have e1:((y.toNat:Int) % 256)=(y.toNat:Int):=by have:=y.toNat_lt;omega
   have e2:(m:Int).tmod 128=(m:Int) % 128:=Int.tmod_eq_emod_of_nonneg (by omega);have HD:=zh (show(m:Int).tdiv 128=((m / 128:Nat):Int)by rw[Int.tdiv_eq_ediv_of_nonneg (by omega)];omega);have HD2:=zh (show(m:Int) / 128=((m / 128:Nat):Int)by omega);clear hmo;obtain⟨Wb,hWb⟩:∃Wb,(wr).alloc (.cells #[.int .u8 (y.toNat:Nat)] 5)=Wb:=⟨_,rfl⟩;have kb:Keeps (wr) Wb []:=by rw[←hWb];exact Keeps.alloc _ _
   have rb:=byte_new (wr) y;rw[hWb]at rb;have HA:=zh (And.intro (own_keep (S:= []) HJ.out.1 kb (by simp)) (And.intro rb (HJ.out.2.then_ kb)));have hbs:w.heap.size≤Wb.heap.size:=HA.out.2.2.size;clear kb rb
   go_wp2_with (at_builtin;refine wpList_append_bytes _ rfl (.tmp 13) (.tmp 18) rfl w.heap.size (.slice A L.length c) (.slice (some ⟨(wr).heap.size,0,none⟩) 1 1) L [y] rfl rfl HA.out.1 HA.out.2.1 (by have:=HLL.out;simp;omega) hbs ?_;intro A3 c3 w6 l3 E3 hl3 ho6 hk6 hb6;refine Hid.out ?_)
   refine zh ?_;have H6:=zh (And.intro ho6 (HA.out.2.2.trans hk6 (fun x hx hlt=>by have:=(HA.out.1.lt x (by simpa using hx)).1;omega)));have e3:l3=L++ [y]:=E3.out;clear E3 ho6 hk6 hb6 HA hWb hbs;have E4:=zh (HST.out.trans e3.symm);clear e3
   go_wp2_with fail
   refine⟨⟨j+1,hj2, ?_,zh ⟨by rw[E4.out];exact H6.out.1,H6.out.2⟩⟩, ?_⟩
   ·rw[HN.out]
    first | rfl | (rw[HD2.out]) | (rw[HD.out])
   ·simp only[intOf]
    first | (rw[HD2.out];omega) | (rw[HD.out];omega) | omega
  ·have hd:decide ((m:Int)≥128)=false:=decide_eq_false (by omega)
   have hy:(m:Int) % 256=((lnNext m).toNat:Int):=by
    unfold lnNext;rw[if_neg hge,lnB_val (by omega)];omega
   have hy2:IntKind.u8.wrap (m:Int)=((lnNext m).toNat:Int):=by rw[IntKind.wrap_u8',hy]
   generalize lnNext m=y at hy hy2 HST
   have hjk:j+1=k:=by
    have:¬j+1 < k:=fun hh=>hge (hmo.2 hh)
    omega
   clear hmo;obtain⟨Wb,hWb⟩:∃Wb,(wr).alloc (.cells #[.int .u8 (y.toNat:Nat)] 5)=Wb:=⟨_,rfl⟩;have kb:Keeps (wr) Wb []:=by rw[←hWb];exact Keeps.alloc _ _
   have rb:=byte_new (wr) y;rw[hWb]at rb;have HA:=zh (And.intro (own_keep (S:= []) HJ.out.1 kb (by simp)) (And.intro rb (HJ.out.2.then_ kb)));have hbs:w.heap.size≤Wb.heap.size:=HA.out.2.2.size;clear kb rb
   go_wp2_with (at_builtin;refine wpList_append_bytes _ rfl (.tmp 22) (.tmp 25) rfl w.heap.size (.slice A L.length c) (.slice (some ⟨(wr).heap.size,0,none⟩) 1 1) L [y] rfl rfl HA.out.1 HA.out.2.1 (by have:=HLL.out;simp;omega) hbs ?_;intro A3 c3 w6 l3 E3 hl3 ho6 hk6 hb6;refine Hid.out ?_)
   refine zh ?_;have H6:=zh (And.intro ho6 (HA.out.2.2.trans hk6 (fun x hx hlt=>by have:=(HA.out.1.lt x (by simpa using hx)).1;omega)));have e3:l3=L++ [y]:=E3.out;clear E3 ho6 hk6 hb6 HA hWb hbs;have e4:l3=R:=e3.trans (HST.out.symm.trans (List.take_of_length_le (by have:=HLn.out;omega)));subst e4;clear e3
   go_wp2_with fail
   go_ret2
   exact⟨_,rfl,H6.out⟩
end Go.Proofs.YtahbikfbjenfpaaGreatDoor
