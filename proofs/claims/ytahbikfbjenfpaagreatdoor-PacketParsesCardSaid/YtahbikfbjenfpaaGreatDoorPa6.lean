/- Package utf: may, classes. Package utf: raw. -/
import Derived.Test.YtahbikfbjenfpaaGreatDoorPa2
import Derived.Lib.Hide
import Derived.Test.YtahbikfbjenfpaaGreatDoorPa1
import Derived.Test.YtahbikfbjenfpaaGreatDoorPa3
import Derived.Laws.BitsLemmas
set_option maxHeartbeats 4000000
set_option maxRecDepth 100000
namespace Go.Proofs.YtahbikfbjenfpaaGreatDoor
open Tryz Go.RowKit

theorem Gb (w:au)(r:Int)(h0:0 < r)(hr:r<=2147483647):Calls prog 192 #[.int .i32 r] w λe w' =>e= .returned (.bool (decide (iU r.toNat)))/\w=w' :=by
 have HB:=zh (show decide (iU r.toNat)=decide ((0<=r/\r<=1114111)/\(r < 55296\/57343 < r))by
  apply decide_eq_decide.2;unfold iU;omega)
 by_cases h1:r<=1114111
 ·by_cases h2:r < 55296
  ·go_enter func192,ntmps192
   go_wp2_with fail
   go_ret;refine⟨?_,rfl⟩;show Ending.returned (.bool true)= .returned (.bool (decide (iU r.toNat)));rw[HB.o,bz (by omega)]
  ·by_cases h3:57343 < r
   ·go_enter func192,ntmps192
    go_wp2_with fail
    go_ret;refine⟨?_,rfl⟩;show Ending.returned (.bool true)= .returned (.bool (decide (iU r.toNat)));rw[HB.o,bz (by omega)]
   ·go_enter func192,ntmps192
    go_wp2_with fail
    go_ret;refine⟨?_,rfl⟩;show Ending.returned (.bool false)= .returned (.bool (decide (iU r.toNat)));rw[HB.o,aZ (by omega)]
 ·go_enter func192,ntmps192
  go_wp2_with fail
  go_ret;refine⟨?_,rfl⟩;show Ending.returned (.bool false)= .returned (.bool (decide (iU r.toNat)));rw[HB.o,aZ (by omega)]
theorem i_ (w:au)(r:Nat)(h0:r≠0)(hr:r<=2147483647):Calls prog 192 #[.int .i32 (r:Int)] w λe w' =>e= .returned (.bool (decide (iU r)))/\w=w' :=by
 have:=Gb w (r:Int) (by omega) (by omega)
 rwa [fT]at this
/-- The classes, as cells. -/
def iY:Array Value:= #[.int .i32 0,.int .u8 0,.int .i32 128,.int .u8 0,.int .i32 2048,.int .u8 192,.int .i32 65536,.int .u8 224,.int .i32 1114112,.int .u8 240]
theorem iC (w:au):Calls prog 191 #[] w λe w' =>e= .returned (.agg iY)/\ae w w' []:=by
 go_enter func191,ntmps191
 go_wp2_with fail
 refine bD (v:= .agg iY) ?_ rfl ⟨rfl,ae.alloc _ _⟩;simp[results,results191,go_sem,iY]
theorem fM (w:au)(b:Nat)(r x y:Int)(h:Row w b 21 #[.int .i32 r]):Calls prog 197 (#[.agg #[.int .i32 x,.int .u8 y]]++ #[.pointer (some ⟨b,0,none⟩)]) w λe w' =>e= .returned (.bool (decide (r < x)))/\ae w w' []:=by
 obtain⟨Wa,FB⟩:∃Wa,w.alloc (.cells #[.int .i32 x,.int .u8 y] 190)=Wa:=⟨_,rfl⟩;have k0:ae w Wa []:=by rw[<-FB];exact ae.alloc _ _
 have c0:=(h.keeps k0).cell 0;have c1:Wa.cell? ⟨w.heap.size,0,none⟩=some (.int .i32 x):=by rw[<-FB];exact(Row.new w _ _).cell 0
 simp only[cg,bU]at c0;have HK:=zh k0;clear k0
 go_enter func197,ntmps197
 go_wp2_with fail
 go_ret;exact⟨rfl,HK.o⟩
theorem Gd (w:au)(b d r:Nat)(h:r<=1114111)(hb:Row w b 191 iY)(hd:Row w d 21 #[.int .i32 (r:Int)]):
  Calls prog 196 #[.slice (some ⟨b,0,none⟩) 5 5,.func (Fn.func 197) #[] #[.pointer (some ⟨d,0,none⟩)]] w λe w' =>e= .returned (.int .i64 ((cF r).length:Nat))/\ae w w' []:=by
 have HB:=zh (And.intro hb hd);obtain⟨L,hL⟩:∃L,(cF r).length=L:=⟨_,rfl⟩;have HL:=zh (show(L=1/\r < 128)\/(L=2/\128<=r/\r < 2048)\/(L=3/\2048<=r/\r < 65536)\/(L=4/\65536<=r)by
  rw[rG]at hL
  split at hL
  ·omega
  ·split at hL
   ·omega
   ·split at hL <;> omega)
 rw[hL];clear hb hd hL
 go_enter func196,ntmps196
 go_wp2_with fail
 go_loopw [8] (λi wr=>∃k:Nat,k<=L/\i= .int .i64 k/\Hid (ae w wr [])) (λi _=>5 - (intOf i).toNat)
 case atStart=>exact⟨0,by omega,rfl,zh (ae.refl _ _)⟩
 case round=>
  obtain⟨k,hk,rfl,HK⟩:=hrel;have HD:=zh (HB.o.2.keeps HK.o);have Du:=HB.o.1.keeps HK.o;have OD:L<=4:=by have:=HL.o;omega
  rcases(show k=0\/k=1\/k=2\/k=3\/k=4 by omega)with rfl | rfl | rfl | rfl | rfl
  ·
   have c0:=Du.cell 0;have c1:=Du.cell 1;simp only[iY,cg,bU,fe]at c0 c1;clear Du
   by_cases hx:(r:Int) < 0
   ·have zl:L=0:=by have:=HL.o;omega
    subst zl;have HX:=zh hx;clear hx
    go_wp2_with fail
    refine(fM _ _ _ 0 0 HD.o).mono ?_;rintro e w2 ⟨rfl,hk2⟩;rw[bz (by have:=HX.o;omega)];have H2:=zh (HK.o.ah hk2);clear hk2
    go_wp2_with fail
    go_ret;exact⟨rfl,H2.o⟩
   ·have zl:0+1<=L:=by have:=HL.o;omega
    have HX:=zh hx;clear hx
    go_wp2_with fail
    refine(fM _ _ _ 0 0 HD.o).mono ?_;rintro e w2 ⟨rfl,hk2⟩;rw[aZ (by have:=HX.o;omega)];have H2:=zh (HK.o.ah hk2);clear hk2
    go_wp2_with fail
    exact⟨⟨0+1,zl,by go_num,H2⟩,by simp[intOf]⟩
  ·
   have c0:=Du.cell 2;have c1:=Du.cell 3;simp only[iY,cg,bU,fe]at c0 c1;clear Du
   by_cases hx:(r:Int) < 128
   ·have zl:L=1:=by have:=HL.o;omega
    subst zl;have HX:=zh hx;clear hx
    go_wp2_with fail
    refine(fM _ _ _ 128 0 HD.o).mono ?_;rintro e w2 ⟨rfl,hk2⟩;rw[bz (by have:=HX.o;omega)];have H2:=zh (HK.o.ah hk2);clear hk2
    go_wp2_with fail
    go_ret;exact⟨rfl,H2.o⟩
   ·have zl:1+1<=L:=by have:=HL.o;omega
    have HX:=zh hx;clear hx
    go_wp2_with fail
    refine(fM _ _ _ 128 0 HD.o).mono ?_;rintro e w2 ⟨rfl,hk2⟩;rw[aZ (by have:=HX.o;omega)];have H2:=zh (HK.o.ah hk2);clear hk2
    go_wp2_with fail
    exact⟨⟨1+1,zl,by go_num,H2⟩,by simp[intOf]⟩
  ·
   have c0:=Du.cell 4;have c1:=Du.cell 5;simp only[iY,cg,bU,fe]at c0 c1;clear Du
   by_cases hx:(r:Int) < 2048
   ·have zl:L=2:=by have:=HL.o;omega
    subst zl;have HX:=zh hx;clear hx
    go_wp2_with fail
    refine(fM _ _ _ 2048 192 HD.o).mono ?_;rintro e w2 ⟨rfl,hk2⟩;rw[bz (by have:=HX.o;omega)];have H2:=zh (HK.o.ah hk2);clear hk2
    go_wp2_with fail
    go_ret;exact⟨rfl,H2.o⟩
   ·have zl:2+1<=L:=by have:=HL.o;omega
    have HX:=zh hx;clear hx
    go_wp2_with fail
    refine(fM _ _ _ 2048 192 HD.o).mono ?_;rintro e w2 ⟨rfl,hk2⟩;rw[aZ (by have:=HX.o;omega)];have H2:=zh (HK.o.ah hk2);clear hk2
    go_wp2_with fail
    exact⟨⟨2+1,zl,by go_num,H2⟩,by simp[intOf]⟩
  ·
   have c0:=Du.cell 6;have c1:=Du.cell 7;simp only[iY,cg,bU,fe]at c0 c1;clear Du
   by_cases hx:(r:Int) < 65536
   ·have zl:L=3:=by have:=HL.o;omega
    subst zl;have HX:=zh hx;clear hx
    go_wp2_with fail
    refine(fM _ _ _ 65536 224 HD.o).mono ?_;rintro e w2 ⟨rfl,hk2⟩;rw[bz (by have:=HX.o;omega)];have H2:=zh (HK.o.ah hk2);clear hk2
    go_wp2_with fail
    go_ret;exact⟨rfl,H2.o⟩
   ·have zl:3+1<=L:=by have:=HL.o;omega
    have HX:=zh hx;clear hx
    go_wp2_with fail
    refine(fM _ _ _ 65536 224 HD.o).mono ?_;rintro e w2 ⟨rfl,hk2⟩;rw[aZ (by have:=HX.o;omega)];have H2:=zh (HK.o.ah hk2);clear hk2
    go_wp2_with fail
    exact⟨⟨3+1,zl,by go_num,H2⟩,by simp[intOf]⟩
  ·
   have c0:=Du.cell 8;have c1:=Du.cell 9;simp only[iY,cg,bU,fe]at c0 c1;clear Du
   by_cases hx:(r:Int) < 1114112
   ·have zl:L=4:=by have:=HL.o;omega
    subst zl;have HX:=zh hx;clear hx
    go_wp2_with fail
    refine(fM _ _ _ 1114112 240 HD.o).mono ?_;rintro e w2 ⟨rfl,hk2⟩;rw[bz (by have:=HX.o;omega)];have H2:=zh (HK.o.ah hk2);clear hk2
    go_wp2_with fail
    go_ret;exact⟨rfl,H2.o⟩
   ·have zl:4+1<=L:=by have:=HL.o;omega
    have HX:=zh hx;clear hx
    go_wp2_with fail
    refine(fM _ _ _ 1114112 240 HD.o).mono ?_;rintro e w2 ⟨rfl,hk2⟩;rw[aZ (by have:=HX.o;omega)];have H2:=zh (HK.o.ah hk2);clear hk2
    go_wp2_with fail
    exact⟨⟨4+1,zl,by go_num,H2⟩,by simp[intOf]⟩
theorem ED (w:au)(r:Nat)(h:r<=1114111):Calls prog 195 #[.int .i32 (r:Int)] w λe w' =>e= .returned (.int .i64 ((cF r).length:Nat))/\ae w w' []:=by
 go_enter func195,ntmps195
 go_wp2_with fail
 refine(iC _).mono ?_;rintro e w1 ⟨rfl,hk⟩;unfold iY;have H1:=zh (And.intro ((ae.alloc w _).ah hk) ((Row.new w 21 #[.int .i32 (r:Int)]).keeps hk));clear hk
 go_wp2_with fail
 refine(Gd _ _ _ _ h (Row.new w1 _ _) (H1.o.2.alloc _)).mono ?_;rintro e w2 ⟨rfl,hk⟩;have H2:=zh ((H1.o.1.bX _).ah hk);clear hk
 go_wp2_with fail
 go_ret;exact⟨rfl,H2.o⟩
theorem Mg (w:au):(Instr.index 191 (.agg #[.int .i32 0,.int .u8 0,.int .i32 128,.int .u8 0,.int .i32 2048,.int .u8 192,.int .i32 65536,.int .u8 224,.int .i32 1114112,.int .u8 240]) (.int .i64 0)).run prog w= .ok (.agg #[.int .i32 0,.int .u8 0]) w:=by kernel_rfl
theorem Hz (w:au):(Instr.index 191 (.agg #[.int .i32 0,.int .u8 0,.int .i32 128,.int .u8 0,.int .i32 2048,.int .u8 192,.int .i32 65536,.int .u8 224,.int .i32 1114112,.int .u8 240]) (.int .i64 1)).run prog w= .ok (.agg #[.int .i32 128,.int .u8 0]) w:=by kernel_rfl
theorem Hy (w:au):(Instr.index 191 (.agg #[.int .i32 0,.int .u8 0,.int .i32 128,.int .u8 0,.int .i32 2048,.int .u8 192,.int .i32 65536,.int .u8 224,.int .i32 1114112,.int .u8 240]) (.int .i64 2)).run prog w= .ok (.agg #[.int .i32 2048,.int .u8 192]) w:=by kernel_rfl
theorem Hw (w:au):(Instr.index 191 (.agg #[.int .i32 0,.int .u8 0,.int .i32 128,.int .u8 0,.int .i32 2048,.int .u8 192,.int .i32 65536,.int .u8 224,.int .i32 1114112,.int .u8 240]) (.int .i64 3)).run prog w= .ok (.agg #[.int .i32 65536,.int .u8 224]) w:=by kernel_rfl
theorem Hv (w:au):(Instr.index 191 (.agg #[.int .i32 0,.int .u8 0,.int .i32 128,.int .u8 0,.int .i32 2048,.int .u8 192,.int .i32 65536,.int .u8 224,.int .i32 1114112,.int .u8 240]) (.int .i64 4)).run prog w= .ok (.agg #[.int .i32 1114112,.int .u8 240]) w:=by kernel_rfl
theorem Mk (w:au):(Instr.field 190 (.agg #[.int .i32 128,.int .u8 0]) 1).run prog w= .ok (.int .u8 0) w:=by kernel_rfl
theorem Mj (w:au):(Instr.field 190 (.agg #[.int .i32 2048,.int .u8 192]) 1).run prog w= .ok (.int .u8 192) w:=by kernel_rfl
theorem Mi (w:au):(Instr.field 190 (.agg #[.int .i32 65536,.int .u8 224]) 1).run prog w= .ok (.int .u8 224) w:=by kernel_rfl
theorem Mh (w:au):(Instr.field 190 (.agg #[.int .i32 1114112,.int .u8 240]) 1).run prog w= .ok (.int .u8 240) w:=by kernel_rfl

/-- What stands of a rune's bytes while they are made from behind. -/
def mR (n r i:Nat):aG:=(List.range n).map λj=>if j<=i then 0 else u8 (128+r / 64^(n - 1 - j) % 64)
theorem mQ (n r i:Nat):(mR n r i).length=n:=by simp[mR]
theorem EE {n r k:Nat}(hk:0 < k)(ag:k < n):(mR n r k).set k (u8 (128+r / 64^(n - 1 - k) % 64))=mR n r (k - 1):=by
 refine List.ext_getElem? λj=> ?_
 unfold mR;rw[List.getElem?_set,xx,xx,xF,List.length_range]
 by_cases hj:j < n
 ·rw[List.getElem?_range hj]
  by_cases e:k=j
  ·subst e
   rw[aE rfl,aE ag,tg,aj (by omega)]
  ·rw[aj e,tg,tg]
   by_cases h:j<=k
   ·rw[aE h,aE (by omega)]
   ·rw[aj h,aj (by omega)]
 ·have:(List.range n)[j]? =none:=List.getElem?_eq_none (by simp;omega)
  rw[this,aj (by omega)];rfl
theorem pU {r n:Nat}(_h:r<=1114111)(hn:n=(cF r).length):(mR n r 0).set 0 (u8 (dw n+r / 64^(n - 1)))=cF r:=by
 rw[rG]at hn;unfold cF
 by_cases h1:r < 128
 ·rw[aE h1]at hn ⊢
  subst hn;simp[mR,dw,List.range_succ]
 ·rw[aj h1]at hn ⊢
  by_cases h2:r < 2048
  ·rw[aE h2]at hn ⊢
   subst hn;simp[mR,dw,List.range_succ]
  ·rw[aj h2]at hn ⊢
   by_cases h3:r < 65536
   ·rw[aE h3]at hn ⊢
    subst hn;simp[mR,dw,List.range_succ]
   ·rw[aj h3]at hn ⊢
    subst hn;simp[mR,dw,List.range_succ]
theorem OL {x:Nat}(h:x < 2147483648):bits BinOp.and IntKind.i32 (x:Int) 63=((x % 64:Nat):Int):=by
 have:=bits_mask .i32 31 (by decide) wraps_i32 6 (by decide) (x:Int) (by omega) (by omega);exact this
theorem NL {y:Nat}(h:y < 64):bits BinOp.or IntKind.i32 128 (y:Int)=((128+y:Nat):Int):=by
 have:=bits_join .i32 31 (by decide) wraps_i32 6 128 (y:Int) (by decide) (by decide) (by decide) (by omega) (by omega) (by omega);rw[this];omega
theorem y5 {n x:Nat}(h:(n=1/\x < 128)\/(n=2/\x < 32)\/(n=3/\x < 16)\/(n=4/\x < 8)):bits BinOp.or IntKind.u8 ((dw n:Nat):Int) (x:Int)=((dw n+x:Nat):Int):=by
 rcases h with⟨rfl,h⟩ | ⟨rfl,h⟩ | ⟨rfl,h⟩ | ⟨rfl,h⟩
 ·exact(bits_join .u8 8 (by decide) wraps_u8 7 0 (x:Int) (by decide) (by decide) (by decide) (by omega) (by omega) (by omega)).trans (by simp[dw])
 ·exact(u8_or192 (x:Int) (by omega) (by omega)).trans (by simp[dw])
 ·exact(u8_or224 (x:Int) (by omega) (by omega)).trans (by simp[dw])
 ·exact(u8_or240 (x:Int) (by omega) (by omega)).trans (by simp[dw])
theorem rH (w:au)(r:Nat)(h:r<=1114111):Calls prog 193 #[.int .i32 (r:Int)] w λe w' =>∃b,e= .returned (.slice (some ⟨b,0,none⟩) (cF r).length (cF r).length)/\Row w' b 5 (s9 (cF r))/\ae w w' []:=by
 obtain⟨n,hn⟩:∃n,(cF r).length=n:=⟨_,rfl⟩;have HN:=zh (show n=(cF r).length/\1<=n/\n<=4 by
  rw[<-hn,rG];refine⟨rfl, ?_⟩
  split
  ·omega
  ·split
   ·omega
   ·split <;> omega)
 rw[hn];obtain⟨Z,hZ⟩:∃Z,s9 (List.replicate n 0)=Z:=⟨_,rfl⟩;have hmk:∀w:au,(Instr.makeSlice 32 (.int .i64 (n:Int)) (.int .i64 (n:Int))).run prog w= .ok (.slice (some ⟨w.heap.size,0,none⟩) n n) (w.alloc (.cells Z 5)):=λw=>by rw[<-hZ];exact NN w n (by have:=HN.o;omega)
 have HZ:=zh hZ;clear hn hZ
 go_enter func193,ntmps193
 go_wp2_with fail
 refine(ED w r h).mono ?_;rintro e w1 ⟨rfl,hk⟩;rw[<-HN.o.1];have HS:=zh hk.size;have H1:=zh (And.intro (hk.bX (.cells Z 5)) (Row.new w1 5 Z));have QR:IntKind.i64.wrap ((n:Int) - 1)=(n:Int) - 1:=IntWalk.i64_in _ (by have:=HN.o;omega);clear hk
 go_wp2_with fail
 clear hmk QR
 go_loopw [0,5] (λa i wr=>∃(k x:Nat) (z:Int),k < n/\z=k/\a= .int .i32 (x:Int)/\i= .int .i64 z/\Hid (x=r / 64^(n - 1 - k)/\Row wr w1.heap.size 5 (s9 (mR n r k))/\ae w wr [])) (λ_ i _=>(intOf i).toNat)
 case atStart=>
  refine⟨n - 1,r,_,by have:=HN.o;omega,by have:=HN.o;omega,rfl,rfl,zh ⟨?_, ?_,H1.o.1⟩⟩
  ·rw[Nat.sub_self,Nat.pow_zero,Nat.div_one]
  ·have e:mR n r (n - 1)=List.replicate n 0:=by
    unfold mR;refine List.ext_getElem? λj=> ?_
    rw[xx,List.getElem?_replicate]
    by_cases hj:j < n
    ·rw[List.getElem?_range hj,aE hj,tg,aE (by omega)]
    ·rw[List.getElem?_eq_none (by simp;omega),aj hj];rfl
   rw[e,HZ.o];exact H1.o.2
 case round=>
  clear H1;obtain⟨k,x,z,hk,rfl,rfl,rfl,HR⟩:=hrel;have Wt:=HN.o.2;have Wk:x<=1114111:=by rw[HR.o.1];exact cH (Nat.div_le_self _ _) h
  by_cases wZ:0 < k
  ·have q:=HR.o.2.1.cell k
   have f:=HR.o.2.1.frozen k;rw[sM _ (by rw[mQ];exact hk)]at q;have ag:(k:Int) < n:=by omega
   have hwk:IntKind.i64.wrap ((k:Int) - 1)=(k:Int) - 1:=IntWalk.i64_in _ (by omega);unfold bq at q;obtain⟨y,hy⟩:∃y,x % 64=y:=⟨_,rfl⟩;have hand:bits BinOp.and IntKind.i32 (x:Int) 63=(y:Int):=by rw[<-hy];exact OL (by omega)
   obtain⟨v,hv⟩:∃v,128+y=v:=⟨_,rfl⟩;have PS:bits BinOp.or IntKind.i32 128 (y:Int)=(v:Int):=by rw[<-hv];exact NL (by omega)
   have Wo:(v:Int) % 256=v:=by omega
   have HV:=zh (show Value.int .u8 (v:Int)=bq (u8 (128+r / 64^(n - 1 - k) % 64))by
    unfold bq;rw[<-HR.o.1,hy,hv,cu (by omega)])
   have HW:=zh (show w.heap.size<=w1.heap.size from HS.o);clear hy hv
   go_wp2_with fail
   refine⟨⟨k - 1,x / 64,_,by omega,by omega,by go_num,rfl,zh ⟨?_, ?_, ?_⟩⟩,by simp[intOf];omega⟩
   ·rw[HR.o.1,Aa,<-oK]
    congr 2
    omega
   ·rw[HV.o,<-EE wZ hk,<-sL]
    exact HR.o.2.1.store k _
   ·exact HR.o.2.2.trans (ae.setCell _ _ _) (λy hy hlt=>by have:=HW.o;simp at hy;omega)
  ·obtain rfl:k=0:=by omega
   have HW:=zh (show w.heap.size<=w1.heap.size from HS.o);have HX:=zh (show(n=1/\x < 128)\/(n=2/\x < 32)\/(n=3/\x < 16)\/(n=4/\x < 8)by
    have e:=HN.o.1;have ex:=HR.o.1;rw[rG]at e
    by_cases h1:r < 128
    ·rw[aE h1]at e;subst e;simp at ex;omega
    ·rw[aj h1]at e
     by_cases h2:r < 2048
     ·rw[aE h2]at e;subst e;simp at ex;omega
     ·rw[aj h2]at e
      by_cases h3:r < 65536
      ·rw[aE h3]at e;subst e;simp at ex;omega
      ·rw[aj h3]at e;subst e;simp at ex;omega)
   obtain⟨v,hv⟩:∃v,dw n+x=v:=⟨_,rfl⟩
   rcases(show n=1\/n=2\/n=3\/n=4 by omega)with rfl | rfl | rfl | rfl
   ·
    go_wp2_with fail
    refine(iC wr).mono ?_;rintro e w2 ⟨rfl,hk2⟩;unfold iY;have hq:=HR.o.2.1.keeps hk2;have q:=hq.cell 0;have f:=hq.frozen 0;rw[sM _ (by rw[mQ];exact hk)]at q;unfold bq at q;have PS:bits BinOp.or IntKind.u8 0 (x:Int)=(v:Int):=by rw[<-hv];exact y5 (n:=1) (x:=x) (by have:=HX.o;omega)
    have hxm:(x:Int) % 256=x:=by have:=HX.o;omega
    have hix:=Hz;have Q8:=Mk;have H2:=zh (And.intro hq (HR.o.2.2.ah hk2));clear hq hk2
    go_wp2_with fail
    go_ret;refine⟨_,rfl, ?_,H2.o.2.trans (ae.setCell _ _ _) (λy hy hlt=>by have:=HW.o;simp at hy;omega)⟩;have Bq:Value.int .u8 (v:Int)=bq (u8 v):=by unfold bq;rw[cu (by have:=HX.o;rw[<-hv];simp[dw];omega)]
    rw[Bq];have:=H2.o.1.store 0 (bq (u8 v));rw[sL,<-hv]at this;rw[<-pU h HN.o.1];rw[<-hv];rw[HR.o.1]at this ⊢
    exact this
   ·
    go_wp2_with fail
    refine(iC wr).mono ?_;rintro e w2 ⟨rfl,hk2⟩;unfold iY;have hq:=HR.o.2.1.keeps hk2;have q:=hq.cell 0;have f:=hq.frozen 0;rw[sM _ (by rw[mQ];exact hk)]at q;unfold bq at q;have PS:bits BinOp.or IntKind.u8 192 (x:Int)=(v:Int):=by rw[<-hv];exact y5 (n:=2) (x:=x) (by have:=HX.o;omega)
    have hxm:(x:Int) % 256=x:=by have:=HX.o;omega
    have hix:=Hy;have Q8:=Mj;have H2:=zh (And.intro hq (HR.o.2.2.ah hk2));clear hq hk2
    go_wp2_with fail
    go_ret;refine⟨_,rfl, ?_,H2.o.2.trans (ae.setCell _ _ _) (λy hy hlt=>by have:=HW.o;simp at hy;omega)⟩;have Bq:Value.int .u8 (v:Int)=bq (u8 v):=by unfold bq;rw[cu (by have:=HX.o;rw[<-hv];simp[dw];omega)]
    rw[Bq];have:=H2.o.1.store 0 (bq (u8 v));rw[sL,<-hv]at this;rw[<-pU h HN.o.1];rw[<-hv];rw[HR.o.1]at this ⊢
    exact this
   ·
    go_wp2_with fail
    refine(iC wr).mono ?_;rintro e w2 ⟨rfl,hk2⟩;unfold iY;have hq:=HR.o.2.1.keeps hk2;have q:=hq.cell 0;have f:=hq.frozen 0;rw[sM _ (by rw[mQ];exact hk)]at q;unfold bq at q;have PS:bits BinOp.or IntKind.u8 224 (x:Int)=(v:Int):=by rw[<-hv];exact y5 (n:=3) (x:=x) (by have:=HX.o;omega)
    have hxm:(x:Int) % 256=x:=by have:=HX.o;omega
    have hix:=Hw;have Q8:=Mi;have H2:=zh (And.intro hq (HR.o.2.2.ah hk2));clear hq hk2
    go_wp2_with fail
    go_ret;refine⟨_,rfl, ?_,H2.o.2.trans (ae.setCell _ _ _) (λy hy hlt=>by have:=HW.o;simp at hy;omega)⟩;have Bq:Value.int .u8 (v:Int)=bq (u8 v):=by unfold bq;rw[cu (by have:=HX.o;rw[<-hv];simp[dw];omega)]
    rw[Bq];have:=H2.o.1.store 0 (bq (u8 v));rw[sL,<-hv]at this;rw[<-pU h HN.o.1];rw[<-hv];rw[HR.o.1]at this ⊢
    exact this
   ·
    go_wp2_with fail
    refine(iC wr).mono ?_;rintro e w2 ⟨rfl,hk2⟩;unfold iY;have hq:=HR.o.2.1.keeps hk2;have q:=hq.cell 0;have f:=hq.frozen 0;rw[sM _ (by rw[mQ];exact hk)]at q;unfold bq at q;have PS:bits BinOp.or IntKind.u8 240 (x:Int)=(v:Int):=by rw[<-hv];exact y5 (n:=4) (x:=x) (by have:=HX.o;omega)
    have hxm:(x:Int) % 256=x:=by have:=HX.o;omega
    have hix:=Hv;have Q8:=Mh;have H2:=zh (And.intro hq (HR.o.2.2.ah hk2));clear hq hk2
    go_wp2_with fail
    go_ret;refine⟨_,rfl, ?_,H2.o.2.trans (ae.setCell _ _ _) (λy hy hlt=>by have:=HW.o;simp at hy;omega)⟩;have Bq:Value.int .u8 (v:Int)=bq (u8 v):=by unfold bq;rw[cu (by have:=HX.o;rw[<-hv];simp[dw];omega)]
    rw[Bq];have:=H2.o.1.store 0 (bq (u8 v));rw[sL,<-hv]at this;rw[<-pU h HN.o.1];rw[<-hv];rw[HR.o.1]at this ⊢
    exact this
end Go.Proofs.YtahbikfbjenfpaaGreatDoor
