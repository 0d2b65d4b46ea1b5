/- Package length: the bytes of a length. Package length: a length read. Reference 15: the bytes of a length. -/
import Derived.Test.YtahbikfbjenfpaaGreatDoorPa28
import Derived.Laws.Bits128
import Derived.Lib.VarintBits
set_option maxHeartbeats 4000000
set_option maxRecDepth 100000
namespace Go.Proofs.YtahbikfbjenfpaaGreatDoor
open Tryz Go.RowKit

theorem JH {w:au}{B B' :Nat}{e:TypeId}{v:Value}{n:Nat}{xs:List Value}(h:w.ownsRow B e 1 v n xs)(hB:B' <=B):w.ownsRow B' e 1 v n xs:=by
 obtain⟨h1,h2⟩:=h;refine⟨h1, ?_⟩
 rcases h2 with h2 | ⟨g,cap,cur,e1,e2,h3⟩
 ·exact .inl h2
 ·exact .inr ⟨g,cap,cur,e1,cH hB e2,h3⟩
def iw (m:Nat):UInt8:=jE (m % 128+if 128<=m then 128 else 0)
theorem vV {n j:Nat}(h:n < 268435456)(hj:j < dD n):(eF n).take (j+1)=(eF n).take j++ [iw (n / 128^j)]:=by
 have hl:=ed n;rw[hO (by omega)]
 congr 2
 unfold dD at hj;unfold iw
 by_cases h1:n < 128
 ·have e:eF n= [jE n]:=by unfold eF;rw[aE h1]
  rw[aE h1]at hj;have LL:j=0:=by omega
  subst LL;simp only[e,qB,Nat.pow_zero,Nat.div_one];rw[aj (by omega),zU h1,fj]
 ·rw[aj h1]at hj
  by_cases h2:n < 16384
  ·have e:eF n= [jE (n % 128+128),jE (n / 128)]:=by unfold eF;rw[aj h1,aE h2]
   rw[aE h2]at hj;have:j=0\/j=1:=by omega
   rcases this with rfl | rfl
   ·simp only[e,qB,Nat.pow_zero,Nat.div_one]
    rw[aE (by omega)]
   ·simp only[e,uR,qB,Nat.pow_one]
    rw[aj (by omega),zU (by omega),fj]
  ·rw[aj h2]at hj
   by_cases h3:n < 2097152
   ·have e:eF n= [jE (n % 128+128),jE (n / 128 % 128+128),jE (n / 16384)]:=by unfold eF;rw[aj h1,aj h2,aE h3]
    rw[aE h3]at hj;have:j=0\/j=1\/j=2:=by omega
    rcases this with rfl | rfl | rfl
    ·simp only[e,qB,Nat.pow_zero,Nat.div_one]
     rw[aE (by omega)]
    ·simp only[e,uR,qB,Nat.pow_one]
     rw[aE (by omega)]
    ·simp only[e,uR,qB,show(128:Nat)^2=16384 by decide]
     rw[aj (by omega),zU (by omega),fj]
   ·have e:eF n= [jE (n % 128+128),jE (n / 128 % 128+128),jE (n / 16384 % 128+128),jE (n / 2097152)]:=by unfold eF;rw[aj h1,aj h2,aj h3]
    rw[aj h3]at hj;have:j=0\/j=1\/j=2\/j=3:=by omega
    rcases this with rfl | rfl | rfl | rfl
    ·simp only[e,qB,Nat.pow_zero,Nat.div_one]
     rw[aE (by omega)]
    ·simp only[e,uR,qB,Nat.pow_one]
     rw[aE (by omega)]
    ·simp only[e,uR,qB,show(128:Nat)^2=16384 by decide]
     rw[aE (by omega)]
    ·simp only[e,uR,qB,show(128:Nat)^3=2097152 by decide]
     rw[aj (by omega),zU (by omega),fj]
theorem u8_or128 (x:Nat)(h:x < 128):bits BinOp.or IntKind.u8 ((x:Nat):Int) 128=((x+128:Nat):Int):=by
 have:∀x:Fin 128,bits BinOp.or IntKind.u8 ((x.val:Nat):Int) 128=((x.val+128:Nat):Int):=by decide+kernel
 exact this ⟨x,h⟩
theorem y_ (w:au)(bx:Nat)(m:Nat)(hm:m < 268435456)(hb:Row w bx 2 #[.int .i64 m]):
  Calls prog 161 #[.pointer (some ⟨bx,0,none⟩)] w λe w' =>e= .returned (.int .u8 ((iw m).toNat:Nat))/\Row w' bx 2 #[.int .i64 (m / 128:Nat)]/\ae w w' [bx]:=by
 have c:=hb.cell 0;have f:=hb.frozen 0;simp only[cg,bU]at c;have e1:=i64_and127 (m:Int);have hx0:=u8_or128 (m % 128) (Nat.mod_lt _ (by omega));have hx:bits BinOp.or IntKind.u8 ((m:Int) % 128) 128=(m:Int) % 128+128:=by
  rw[show((m:Int) % 128)=((m % 128:Nat):Int)by omega,hx0];omega
 have e4:((m:Int) % 128) % 256=(m:Int) % 128:=by omega
 have HQ:=zh (show(((m / 128:Nat):Nat):Int)=(m:Int) / 128 by omega);rw[HQ.o];obtain⟨W1,hW1⟩:∃W1,w.setCell ⟨bx,0,none⟩ (.int .i64 ((m:Int) / 128))=W1:=⟨_,rfl⟩;have h1:Row W1 bx 2 #[.int .i64 ((m:Int) / 128)]:=by rw[<-hW1];simpa using hb.store 0 (.int .i64 ((m:Int) / 128))
 have k1:ae w W1 [bx]:=by rw[<-hW1];exact ae.setCell _ _ _
 have c1:=h1.cell 0;simp only[cg,bU]at c1;have H1:=zh (And.intro h1 k1);clear h1 k1 hb hx0
 by_cases h:128<=m
 ·have HN:=zh (show bq (iw m)= .int .u8 ((m:Int) % 128+128)by
   unfold iw bq;rw[aE h,eP (by omega)]
   congr 1)
  have hd:decide (((m:Int) / 128) > 0)=true:=bz (by omega);rw[show(Value.int .u8 ((iw m).toNat:Nat))=_ from HN.o]
  go_enter func161,ntmps161
  go_wp2_with fail
  go_ret;exact⟨rfl,H1.o⟩
 ·have HN:=zh (show bq (iw m)= .int .u8 ((m:Int) % 128)by
   unfold iw bq;rw[aj h,fj,eP (by omega)]
   congr 1)
  have hd:decide (((m:Int) / 128) > 0)=false:=aZ (by omega);rw[show(Value.int .u8 ((iw m).toNat:Nat))=_ from HN.o]
  go_enter func161,ntmps161
  go_wp2_with fail
  go_ret;exact⟨rfl,H1.o⟩
theorem Dg (w:au)(n:Int):Calls prog 144 #[.int .i64 n] w (aJ w (!(decide (0<=n) && decide (n<=268435455)))):=by
 obtain⟨q,hq⟩:∃q,(decide (0<=n) && decide (n<=268435455))=q:=⟨_,rfl⟩;have H:=zh (xY w n);rw[hq]at H ⊢
 go_enter func144,ntmps144
 go_wp2_with fail
 refine H.o.mono ?_;rintro e w1 ⟨rfl,rfl⟩
 go_wp2_with fail
 go_ret;exact⟨by cases q <;> rfl,ae.refl _ _⟩
theorem Bk (w:au)(n:Int):Calls prog 146 #[.int .i64 n] w λe w' =>e= .returned (.func (.func 161) #[] #[.pointer (some ⟨w.heap.size,0,none⟩)])/\w' =w.alloc (.cells #[.int .i64 n] 2):=by
 have PT:∀(fn:Fn) (first cap:Array Value) (w:au),(Instr.makeFunc fn first cap).run prog w= .ok (.func fn first cap) w:=λ_ _ _ _=>rfl
 go_enter func146,ntmps146
 go_wp2_with fail
 go_ret;exact⟨rfl,rfl⟩
theorem Ft (w:au)(A:Option Addr)(c:Nat)(l:List Int)(hL:cG w w.heap.size A (l.map λx=> .int .i64 x))(hl:l.length<=1000000):
  Calls prog 143 #[.slice A l.length c,.func (.func 144) #[] #[]] w (aJ w (l.any λn=> !(decide (0<=n) && decide (n<=268435455)))):=by
 have H:=zh (Dj w 0 A c l _ hL hl (λW _ x _=>Dg W x));have HA:=zh (sJ (λn:Int=> !(decide (0<=n) && decide (n<=268435455))) l)
 generalize jx (λn:Int=> !(decide (0<=n) && decide (n<=268435455))) l=i at H HA
 clear hL;obtain⟨q,hq⟩:∃q,(l.any λn=> !(decide (0<=n) && decide (n<=268435455)))=q:=⟨_,rfl⟩;rw[hq]at HA ⊢
 have hi:=HA.o
 go_enter func143,ntmps143
 go_wp2_with fail
 refine H.o.mono ?_;rintro e w1 ⟨rfl,hk⟩;have HK:=zh hk;clear hk
 go_wp2_with fail
 go_ret;exact⟨rfl,HK.o⟩
theorem Fu (w:au)(bl:Nat)(n:Nat)(h:n < 268435456)(hb:Row w bl 2 #[.int .i64 n]):Calls prog 91 #[.slice (some ⟨bl,0,none⟩) 1 1] w λe w' =>∃v,e= .returned (.tuple #[v,.int .i64 0])/\aS w' w.heap.size v (eF n)/\ae w w' []:=by
 have hL:cG w w.heap.size (some ⟨bl,0,none⟩) ([(n:Int)].map λx=> .int .i64 x):=λ_=>⟨bl,0,rfl,hb.lt,λj u hu=>by
  rw[iP,hb.cell j,<-hu];simp only[cg,eu,fU]⟩
 have HC:=zh (Ft w (some ⟨bl,0,none⟩) 1 [(n:Int)] hL (by simp));rw[show([(n:Int)].any λn=> !(decide (0<=n) && decide (n<=268435455)))=false by simp;omega]at HC;have HB:=zh hb;have HS:=zh (λw=>qX w (n:Int) (by omega));rw[fT]at HS;have II:=zh (ed n);have Mw:=zh (λj h2=>vV (n:=n) (j:=j) h h2);obtain⟨R,hR⟩:∃R,eF n=R:=⟨_,rfl⟩;obtain⟨k,hk⟩:∃k,dD n=k:=⟨_,rfl⟩;have hk4:k<=4:=by rw[<-hk];exact(gP n).2
 rw[hR]at II Mw ⊢
 rw[hk]at HS II Mw;clear hb hL hR hk
 go_enter func91,ntmps91
 go_wp2_with fail
 go_step3
 go_wp2_with fail
 refine HC.o.mono ?_;rintro e w1 ⟨rfl,hk1⟩;have kU:=zh hk1;clear hk1
 go_wp2_with fail
 go_loopw [2,11] (λv i wr=>(i= .int .i64 0/\v= .slice none 0 0/\Hid (ae w wr []))\/(i= .int .i64 1/\Hid (aS wr w.heap.size v R/\ae w wr []))) (λ_ i _=>1 - (intOf i).toNat)
 case atStart=>exact .inl ⟨rfl,rfl,zh kU.o⟩
 case round=>
  rcases hrel with⟨rfl,rfl,HK⟩ | ⟨rfl,HK⟩
  ·have c0:=(HB.o.keeps HK.o).cell 0
   simp only[cg,bU]at c0
   go_wp2_with fail
   refine(Bk _ _).mono ?_;rintro e w2 ⟨rfl,hw2⟩;have r2:Row w2 wr.heap.size 2 #[.int .i64 n]:=by rw[hw2];exact Row.new _ _ _
   have k2:ae wr w2 []:=by rw[hw2];exact ae.alloc _ _
   have H2:=zh (And.intro r2 (HK.o.ah k2));clear r2 k2 hw2 c0
   go_wp2_with fail
   refine(HS.o _).mono ?_;rintro e w3 ⟨rfl,hk3⟩;obtain⟨bx,hbx⟩:∃bx,wr.heap.size=bx:=⟨_,rfl⟩;have JO:w.heap.size<=bx:=by rw[<-hbx];exact HK.o.size
   rw[hbx]at H2 ⊢
   have H3:=zh (And.intro (H2.o.1.keeps hk3) (H2.o.2.ah hk3));clear hk3
   go_wp2_with fail
   go_loopw [2,19] (λv i wr' =>∃j:Nat,j<=k/\i= .int .i64 j/\Hid (aS wr' w.heap.size v (R.take j)/\Row wr' bx 2 #[.int .i64 (n / 128^j:Nat)]/\ae w wr' [])) (λ_ i _=>k - (intOf i).toNat)
   case atStart=>exact⟨0,by omega,rfl,zh ⟨xw _ _ _ _,by simpa using H3.o.1,H3.o.2⟩⟩
   case round=>
    obtain⟨j,hj,rfl,HJ⟩:=hrel;obtain⟨L,KL⟩:∃L,R.take j=L:=⟨_,rfl⟩;have og:=zh (show L.length=j from by rw[<-KL,dq];have:=II.o;omega);have K3:=zh KL;rw[KL]at HJ;clear KL;obtain⟨A,c,rfl,_⟩:=HJ.o.1.parts
    by_cases hjk:j < k
    ·have hm:n / 128^j < 268435456:=zZ (Nat.div_le_self _ _) h
     have hst:=Mw.o j hjk;rw[K3.o]at hst
     go_wp2_with fail
     refine(y_ _ bx (n / 128^j) hm HJ.o.2.1).mono ?_;rintro e w5 ⟨rfl,SX,iH⟩;have nb:=lr HJ.o.1 HJ.o.2.1 (by decide);have nz:=aM HJ.o.1 iH (λg hg=>by rw[hg]at nb;simpa using nb)
     generalize iw (n / 128^j)=y at hst
     obtain⟨Wb,fg⟩:∃Wb,w5.alloc (.cells #[.int .u8 (y.toNat:Nat)] 5)=Wb:=⟨_,rfl⟩;have kb:ae w5 Wb []:=by rw[<-fg];exact ae.alloc _ _
     have rb:Bytes Wb Wb.heap.size (.slice (some ⟨w5.heap.size,0,none⟩) 1 1) [y]:=by
      rw[<-fg];exact⟨some ⟨w5.heap.size,0,none⟩,1,rfl,by simp,(λh=>by cases h),by simp[maxLen],by simp,λ_=>⟨w5.heap.size,0,rfl,by simp,λi u hu=>by
       rw[iP,(Row.new w5 _ _).cell i,<-hu];simp only[cg,eu,fU,bq]⟩⟩
     have HA:=zh (And.intro (aM nz kb (by simp)) (And.intro rb (And.intro (SX.keeps kb) ((HJ.o.2.2.trans iH (λx hx hlt=>by simp at hx;omega)).ah kb))));have hbs:w.heap.size<=Wb.heap.size:=HA.o.2.2.2.size;clear nb nz kb rb SX iH hm
     go_wp2_with (at_builtin;refine Hid.o ?_)
     refine zh ?_;refine aI _ rfl (.tmp 21) (.tmp 24) rfl w.heap.size (.slice A L.length c) (.slice (some ⟨w5.heap.size,0,none⟩) 1 1) L [y] rfl rfl HA.o.1 HA.o.2.1 (by have:=og.o;simp;omega) hbs ?_;intro A3 c3 w6 l3 E3 hl3 pF ko wh;have e3:l3=R.take (j+1):=E3.o.trans hst.symm;have nb:=lr HA.o.1 HA.o.2.2.1 (by decide);have SW:=HA.o.2.2.1.keep ko (by simpa using nb);have H6:=zh (And.intro pF (And.intro SW (HA.o.2.2.2.trans ko (λx hx hlt=>by have:=(HA.o.1.lt x (by simpa using hx)).1;omega))));have E4:=zh e3.symm;clear e3 E3 pF ko wh nb SW HA fg hbs hst
     go_wp2_with fail
     exact⟨⟨j+1,by omega,by go_num,zh ⟨by rw[E4.o];exact H6.o.1,by rw[oK,<-Aa];exact H6.o.2.1,H6.o.2.2⟩⟩,by simp[intOf];omega⟩
    ·obtain rfl:j=k:=by omega
     have e:L=R:=by rw[<-K3.o];exact qD (by have:=II.o;omega)
     subst e
     go_wp2_with fail
     exact⟨.inr ⟨rfl,zh ⟨HJ.o.1,HJ.o.2.2⟩⟩,by simp[intOf]⟩
  ·obtain⟨A,c,rfl,_⟩:=HK.o.1.parts
   go_wp2_with fail
   rw[Exit.noGoto_ret]
   go_ret2
   exact⟨_,rfl,HK.o⟩
theorem pZ (w:au)(n:Nat)(h:n < 268435456):Calls prog 24 #[.int .i64 n] w λe w' =>∃v,e= .returned (.tuple #[v,.int .i64 0])/\aS w' w.heap.size v (eF n)/\ae w w' []:=by
 obtain⟨W0,aV⟩:∃W0,w.alloc (.cells #[.int .i64 n] 2)=W0:=⟨_,rfl⟩;have k0:ae w W0 []:=by rw[<-aV];exact ae.alloc _ _
 have r0:Row W0 w.heap.size 2 #[.int .i64 n]:=by rw[<-aV];exact Row.new _ _ _
 have HA:=zh (Fu W0 w.heap.size n h r0);have HK:=zh k0;clear k0 r0
 go_enter func24,ntmps24
 go_wp2_with fail
 refine HA.o.mono ?_;rintro e w1 ⟨v,rfl,ho,hk⟩;have H1:=zh (And.intro (JH ho HK.o.size) (HK.o.ah hk));clear ho hk aV
 go_wp2_with fail
 go_ret2
 exact⟨v,rfl,H1.o⟩

/-- The number that bytes tell. -/
def dx:aG->Nat
 | []=>0
 | x::l=>x.toNat % 128+128*dx l
theorem vg (l:aG)(x:UInt8):dx (l++ [x])=dx l+x.toNat % 128*128^l.length:=by
 induction l with
 | nil=>simp[dx]
 | cons a l ih=>
  rw[jS,dx,ih,dx,du,oK,Nat.mul_add];rw[show 128*(x.toNat % 128*128^l.length)=x.toNat % 128*(128^l.length*128)by rw[Nat.mul_comm,Nat.mul_assoc]];omega
theorem Ag (l:aG):dx l < 128^l.length:=by
 induction l with
 | nil=>simp[dx]
 | cons a l ih=>
  rw[dx,du,oK];have:=Nat.mod_lt a.toNat (show 128 > 0 by omega);omega
theorem Dl (a b:Nat)(ha:a < 4611686018427387904)(hb:b < 4611686018427387904):bits .or .i64 (a:Int) (b:Int)=((a ||| b:Nat):Int):=by
 have hx:a ||| b < 2^62:=Nat.or_lt_two_pow (by omega) (by omega)
 show IntKind.i64.wrap ((BitVec.ofInt 64 (a:Int) ||| BitVec.ofInt 64 (b:Int)).toNat:Int)=_;rw[BitVec.toNat_or,ofInt_u64 a (by omega),ofInt_u64 b (by omega),IntKind.wrap_i64];omega
theorem NB (n y j:Nat)(hn:n < 128^j)(hy:y < 128)(hj:j<=3):bits .or .i64 (n:Int) ((y:Int)*128^j)=((n+y*128^j:Nat):Int):=by
 have h1:(128:Nat)^j<=2097152:=by
  have:j=0\/j=1\/j=2\/j=3:=by omega
  rcases this with rfl | rfl | rfl | rfl <;> decide
 have h2:y*128^j<=127*2097152:=lR (by omega) h1;have e:((y:Int)*128^j)=((y*128^j:Nat):Int):=by rw[Int.natCast_mul,Int.natCast_pow];rfl
 rw[e,Dl _ _ (by omega) (by omega),Nat.or_comm]
 congr 1
 have e2:(128:Nat)^j=2^(7*j):=by rw[Nat.pow_mul]
 rw[e2]at hn ⊢
 rw[nat_join (7*j) (y*2^(7*j)) n (Nat.mul_mod_left _ _) hn,Nat.add_comm]
theorem K_ (x j:Nat)(hj:j<=3):wrap64 ((x:Int) % 128*2^(7*j))=(x:Int) % 128*128^j:=by
 have:j=0\/j=1\/j=2\/j=3:=by omega
 rcases this with rfl | rfl | rfl | rfl <;> (unfold wrap64;simp;omega)
theorem px (w:au)(A:Option Addr)(c:Nat)(l:aG)(hl:l.length<=4)(hL:cG w w.heap.size A (l.map bq)):Calls prog 98 #[.slice A l.length c] w λe w' =>e= .returned (.int .i64 (dx l:Nat))/\w=w' :=by
 go_enter func98,ntmps98
 go_wp2_with fail
 go_loop [3,9] (λn i=>∃j:Nat,j<=l.length/\i= .int .i64 j/\n= .int .i64 (dx (l.take j):Nat)) (λ_ i=>l.length - (intOf i).toNat)
 case atStart=>exact⟨0,by omega,rfl,rfl⟩
 case round=>
  obtain⟨j,hj,rfl,rfl⟩:=hrel
  by_cases hjl:j < l.length
  ·obtain⟨b,o,rfl,hb,hcx⟩:=hL.at_ (k:=j) (by simpa using hjl)
   rw[eW l hjl]at hcx;have hs:=vg (l.take j) l[j];have hlt:=Ag (l.take j);rw[<-hO hjl]at hs;rw[dq,Nat.min_eq_left (by omega)]at hs hlt;have hx:=l[j].toNat_lt;have h127:=u8_and127 (x:=(l[j].toNat:Int)) (by omega) (by omega);have ho:=NB (dx (l.take j)) (l[j].toNat % 128) j hlt (Nat.mod_lt _ (by omega)) (by omega);rw[show(((l[j].toNat % 128:Nat):Nat):Int)=(l[j].toNat:Int) % 128 by omega,<-hs]at ho;have HL:=zh hL;clear hL hs hlt
   generalize l[j].toNat=x at*
   generalize dx (l.take j)=N at*
   have HW:=zh (K_ x j (by omega));have HO:=zh ho;clear ho
   go_wp2_with fail
   exact⟨⟨j+1,by omega,by go_num,by rw[HW.o,HO.o]⟩,by simp[intOf];omega⟩
  ·obtain rfl:j=l.length:=by omega
   rw[eQ]
   go_wp2_with fail
   go_ret;exact⟨rfl,rfl⟩
theorem Bi (w:au)(x:UInt8):Calls prog 97 #[bq x] w (aJ w (decide (x.toNat < 128))):=by
 unfold bq;obtain⟨q,hq⟩:∃q,decide (x.toNat < 128)=q:=⟨_,rfl⟩;have hd:decide ((x.toNat:Int) < 128)=q:=by rw[<-hq,decide_eq_decide];omega
 rw[hq];clear hq
 go_enter func97,ntmps97
 go_wp2_with fail
 go_ret;exact⟨rfl,ae.refl _ _⟩
/-- What reading a length answers. -/
def kC (l:aG):Value:=match gi l with
 | none=> .tuple #[.int .i64 0,.int .i64 0,.int .i64 250]
 | some none=> .tuple #[.int .i64 0,.int .i64 0,.int .i64 0]
 | some (some (n,s))=> .tuple #[.int .i64 (n:Nat),.int .i64 (s:Nat),.int .i64 0]
/-- How the program finds it. -/
theorem Bj (l:aG):(∃k,jx (λx:UInt8=>decide (x.toNat < 128)) (l.take 4)=(k:Nat)/\k < l.length/\k < 4/\dx (l.take (k+1)) < 268435456/\
   ((dD (dx (l.take (k+1)))=k+1/\gi l=some (some (dx (l.take (k+1)),k+1)))\/(dD (dx (l.take (k+1)))≠k+1/\gi l=none)))\/
  (jx (λx:UInt8=>decide (x.toNat < 128)) (l.take 4)= -1/\((l.length>=4/\gi l=none)\/(l.length < 4/\gi l=some none))):=by
 have hsz:∀n,dD n=if n < 128 then 1 else if n < 16384 then 2 else if n < 2097152 then 3 else 4:=λn=>rfl
 rcases l with _ | ⟨a,l1⟩
 ·exact .inr ⟨rfl,.inr ⟨by simp,rfl⟩⟩
 have ha:=a.toNat_lt
 by_cases a1:a.toNat < 128
 ·refine .inl ⟨0,by simp[jx,List.findIdx?_cons,a1],by simp,by omega,by simp[dx];omega,.inl ⟨?_, ?_⟩⟩
  ·simp only[iP,dc,dg,dx,hsz]
   rw[aE (by omega)]
  ·simp[gi,a1,dx,Nat.mod_eq_of_lt a1]
 rcases l1 with _ | ⟨b,l2⟩
 ·exact .inr ⟨by simp[jx,List.findIdx?_cons,a1],.inr ⟨by simp,by simp[gi,a1]⟩⟩
 have hb:=b.toNat_lt
 by_cases b1:b.toNat < 128
 ·refine .inl ⟨1,by simp[jx,List.findIdx?_cons,a1,b1],by simp,by omega,by simp[dx];omega, ?_⟩
  by_cases b0:b.toNat=0
  ·refine .inr ⟨?_,by simp[gi,a1,b0]⟩
   simp only[dc,dg,dx,hsz];rw[aE (by omega)];omega
  ·refine .inl ⟨?_, ?_⟩
   ·simp only[dc,dg,dx,hsz]
    rw[aj (by omega),aE (by omega)]
   ·simp only[gi,a1,b1,b0,jF,jC,dc,dg,dx]
    congr 3
    omega
 rcases l2 with _ | ⟨c,l3⟩
 ·exact .inr ⟨by simp[jx,List.findIdx?_cons,a1,b1],.inr ⟨by simp,by simp[gi,a1,b1]⟩⟩
 have hc:=c.toNat_lt
 by_cases c1:c.toNat < 128
 ·refine .inl ⟨2,by simp[jx,List.findIdx?_cons,a1,b1,c1],by simp,by omega,by simp[dx];omega, ?_⟩
  by_cases c0:c.toNat=0
  ·refine .inr ⟨?_,by simp[gi,a1,b1,c0]⟩
   simp only[dc,dg,dx,hsz]
   split
   ·omega
   ·rw[aE (by omega)];omega
  ·refine .inl ⟨?_, ?_⟩
   ·simp only[dc,dg,dx,hsz]
    rw[aj (by omega),aj (by omega),aE (by omega)]
   ·simp only[gi,a1,b1,c1,c0,jF,jC,dc,dg,dx]
    congr 3
    omega
 rcases l3 with _ | ⟨d,l4⟩
 ·exact .inr ⟨by simp[jx,List.findIdx?_cons,a1,b1,c1],.inr ⟨by simp,by simp[gi,a1,b1,c1]⟩⟩
 have hd:=d.toNat_lt
 by_cases d1:d.toNat < 128
 ·refine .inl ⟨3,by simp[jx,List.findIdx?_cons,a1,b1,c1,d1],by simp,by omega,by simp[dx];omega, ?_⟩
  by_cases d0:d.toNat=0
  ·refine .inr ⟨?_,by simp[gi,a1,b1,c1,d0]⟩
   simp only[dc,dg,dx,hsz]
   split
   ·omega
   ·split
    ·omega
    ·rw[aE (by omega)];omega
  ·refine .inl ⟨?_, ?_⟩
   ·simp only[dc,dg,dx,hsz]
    rw[aj (by omega),aj (by omega),aj (by omega)]
   ·simp only[gi,a1,b1,c1,d1,d0,jF,jC,dc,dg,dx]
    congr 3
    omega
 ·exact .inr ⟨by simp[jx,List.findIdx?_cons,a1,b1,c1,d1],.inl ⟨by simp,by simp[gi,a1,b1,c1,d1]⟩⟩
theorem Df (w:au)(A:Option Addr)(c:Nat)(l:aG)(hl:l.length<=1000000)(hc:l.length<=c)(hL:cG w w.heap.size A (l.map bq)):Calls prog 31 #[.slice A l.length c] w λe w' =>e= .returned (kC l)/\ae w w' []:=by
 have G8:(l.take 4).length=min l.length 4:=by rw[dq,Nat.min_comm]
 have HI:=zh (Bo w 0 A c (l.take 4) (λx=>decide (x.toNat < 128)) (by rw[List.map_take];exact hL.take 4) (by omega) (λW _ x _=>Bi W x));rw[G8]at HI;have HT:=zh (λk (W:au) (hk:ae w W [])=>px W A c (l.take k))
 by_cases UQ:(l.length:Int)<=4
 ·rw[show min l.length 4=l.length by omega]at HI
  rcases Bj l with⟨k,h1,h2,h3,h4,h5⟩ | ⟨h1,h2⟩
  ·rw[h1]at HI
   have hk1:(l.take (k+1)).length=k+1:=by rw[dq];omega
   have HT:=zh (λW (hk:ae w W [])=>px W A c (l.take (k+1)) (by omega) (by rw[List.map_take];exact(hL.keeps hk).take (k+1)));rw[hk1]at HT;have HS:=zh (λw=>qX w (dx (l.take (k+1)):Nat) (by omega));rw[fT]at HS;have H5:=zh h5
   generalize dx (l.take (k+1))=n at*
   have hd:decide ((k:Int) < 0)=false:=aZ (by omega);clear h1 h4 h5 hL G8 hk1
   go_enter func31,ntmps31
   go_wp2_with fail
   refine HI.o.mono ?_;rintro e w1 ⟨rfl,hk⟩;have HK:=zh hk;clear hk
   go_wp2_with fail
   refine(HT.o _ HK.o).mono ?_;rintro e w2 ⟨rfl,rfl⟩
   go_wp2_with fail
   refine(HS.o _).mono ?_;rintro e w3 ⟨rfl,hk⟩;replace HK:=zh (HK.o.ah hk);clear hk
   rcases H5.o with⟨e1,e2⟩ | ⟨e1,e2⟩
   ·have hq:(((dD n:Nat):Int) !=(k:Int)+1)=false:=by simp;omega
    have HA:=zh e2;clear e1 e2
    go_wp2_with fail
    refine bD (v:= .tuple #[.int .i64 (n:Nat),.int .i64 ((k:Int)+1),.int .i64 0]) (by simp[results,results31,go_sem]) rfl ⟨?_,HK.o⟩;unfold kC;rw[HA.o];rfl
   ·have hq:(((dD n:Nat):Int) !=(k:Int)+1)=true:=by simp;omega
    have HA:=zh e2;clear e1 e2
    go_wp2_with fail
    refine bD (v:= .tuple #[.int .i64 0,.int .i64 0,.int .i64 250]) (by simp[results,results31,go_sem]) rfl ⟨?_,HK.o⟩;unfold kC;rw[HA.o]
  ·rw[h1]at HI
   have H2:=zh h2;clear h1 h2 hL G8 HT;have hd:decide ((-1:Int) < 0)=true:=rfl
   rcases H2.o with⟨e1,e2⟩ | ⟨e1,e2⟩
   ·have hq:decide ((l.length:Int)>=4)=true:=bz (by omega)
    have HA:=zh e2;clear e1 e2
    go_enter func31,ntmps31
    go_wp2_with fail
    refine HI.o.mono ?_;rintro e w1 ⟨rfl,hk⟩;have HK:=zh hk;clear hk
    go_wp2_with fail
    refine bD (v:= .tuple #[.int .i64 0,.int .i64 0,.int .i64 250]) (by simp[results,results31,go_sem]) rfl ⟨?_,HK.o⟩;unfold kC;rw[HA.o]
   ·have hq:decide ((l.length:Int)>=4)=false:=aZ (by omega)
    have HA:=zh e2;clear e1 e2
    go_enter func31,ntmps31
    go_wp2_with fail
    refine HI.o.mono ?_;rintro e w1 ⟨rfl,hk⟩;have HK:=zh hk;clear hk
    go_wp2_with fail
    refine bD (v:= .tuple #[.int .i64 0,.int .i64 0,.int .i64 0]) (by simp[results,results31,go_sem]) rfl ⟨?_,HK.o⟩;unfold kC;rw[HA.o]
 ·rw[show min l.length 4=4 by omega]at HI
  have Uz:(4:Int)<=l.length:=by omega
  rcases Bj l with⟨k,h1,h2,h3,h4,h5⟩ | ⟨h1,h2⟩
  ·rw[h1]at HI
   have hk1:(l.take (k+1)).length=k+1:=by rw[dq];omega
   have HT:=zh (λW (hk:ae w W [])=>px W A c (l.take (k+1)) (by omega) (by rw[List.map_take];exact(hL.keeps hk).take (k+1)));rw[hk1]at HT;have HS:=zh (λw=>qX w (dx (l.take (k+1)):Nat) (by omega));rw[fT]at HS;have H5:=zh h5
   generalize dx (l.take (k+1))=n at*
   have hd:decide ((k:Int) < 0)=false:=aZ (by omega);clear h1 h4 h5 hL G8 hk1
   go_enter func31,ntmps31
   go_wp2_with fail
   refine HI.o.mono ?_;rintro e w1 ⟨rfl,hk⟩;have HK:=zh hk;clear hk
   go_wp2_with fail
   refine(HT.o _ HK.o).mono ?_;rintro e w2 ⟨rfl,rfl⟩
   go_wp2_with fail
   refine(HS.o _).mono ?_;rintro e w3 ⟨rfl,hk⟩;replace HK:=zh (HK.o.ah hk);clear hk
   rcases H5.o with⟨e1,e2⟩ | ⟨e1,e2⟩
   ·have hq:(((dD n:Nat):Int) !=(k:Int)+1)=false:=by simp;omega
    have HA:=zh e2;clear e1 e2
    go_wp2_with fail
    refine bD (v:= .tuple #[.int .i64 (n:Nat),.int .i64 ((k:Int)+1),.int .i64 0]) (by simp[results,results31,go_sem]) rfl ⟨?_,HK.o⟩;unfold kC;rw[HA.o];rfl
   ·have hq:(((dD n:Nat):Int) !=(k:Int)+1)=true:=by simp;omega
    have HA:=zh e2;clear e1 e2
    go_wp2_with fail
    refine bD (v:= .tuple #[.int .i64 0,.int .i64 0,.int .i64 250]) (by simp[results,results31,go_sem]) rfl ⟨?_,HK.o⟩;unfold kC;rw[HA.o]
  ·rw[h1]at HI
   have H2:=zh h2;clear h1 h2 hL G8 HT;have hd:decide ((-1:Int) < 0)=true:=rfl
   rcases H2.o with⟨e1,e2⟩ | ⟨e1,e2⟩
   ·have hq:decide ((l.length:Int)>=4)=true:=bz (by omega)
    have HA:=zh e2;clear e1 e2
    go_enter func31,ntmps31
    go_wp2_with fail
    refine HI.o.mono ?_;rintro e w1 ⟨rfl,hk⟩;have HK:=zh hk;clear hk
    go_wp2_with fail
    refine bD (v:= .tuple #[.int .i64 0,.int .i64 0,.int .i64 250]) (by simp[results,results31,go_sem]) rfl ⟨?_,HK.o⟩;unfold kC;rw[HA.o]
   ·exact absurd e1 (by omega)

theorem Bg {n j:Nat}(h:n < 268435456)(hj:j < dD n):(128<=n / 128^j↔j+1 < dD n):=by
 have e0:(128:Nat)^0=1:=by decide
 have e1:(128:Nat)^1=128:=by decide
 have e2:(128:Nat)^2=16384:=by decide
 have e3:(128:Nat)^3=2097152:=by decide
 unfold dD at hj ⊢
 by_cases h1:n < 128
 ·rw[aE h1]at hj ⊢
  obtain rfl:j=0:=by omega
  rw[e0];omega
 ·rw[aj h1]at hj ⊢
  by_cases h2:n < 16384
  ·rw[aE h2]at hj ⊢
   have:j=0\/j=1:=by omega
   rcases this with rfl | rfl
   ·rw[e0];omega
   ·rw[e1];omega
  ·rw[aj h2]at hj ⊢
   by_cases h3:n < 2097152
   ·rw[aE h3]at hj ⊢
    have:j=0\/j=1\/j=2:=by omega
    rcases this with rfl | rfl | rfl
    ·rw[e0];omega
    ·rw[e1];omega
    ·rw[e2];omega
   ·rw[aj h3]at hj ⊢
    have:j=0\/j=1\/j=2\/j=3:=by omega
    rcases this with rfl | rfl | rfl | rfl
    ·rw[e0];omega
    ·rw[e1];omega
    ·rw[e2];omega
    ·rw[e3];omega
theorem sK (w:au)(y:UInt8):Bytes (w.alloc (.cells #[.int .u8 (y.toNat:Nat)] 5)) (w.alloc (.cells #[.int .u8 (y.toNat:Nat)] 5)).heap.size (.slice (some ⟨w.heap.size,0,none⟩) 1 1) [y]:=
 ⟨some ⟨w.heap.size,0,none⟩,1,rfl,by simp,(λh=>by cases h),by simp[maxLen],by simp,λ_=>⟨w.heap.size,0,rfl,by simp,λi u hu=>by
  rw[iP,(Row.new w _ _).cell i,<-hu];simp only[cg,eu,fU,bq]⟩⟩
theorem yI (w:au)(n:Nat)(h:n < 268435456):Calls prog 36 #[.int .i64 n] w λe w' =>∃v,e= .returned (.tuple #[v,.bool true])/\aS w' w.heap.size v (eF n)/\ae w w' []:=by
 have d1:decide ((n:Int) < 0)=false:=aZ (by omega);have d2:decide ((n:Int) > 268435455)=false:=aZ (by omega);have II:=zh (ed n);have Mw:=zh (λj h2=>vV (n:=n) (j:=j) h h2);have TV:=zh (λj h2=>Bg (n:=n) (j:=j) h h2);have hk4:=gP n;obtain⟨R,hR⟩:∃R,eF n=R:=⟨_,rfl⟩;obtain⟨k,hk⟩:∃k,dD n=k:=⟨_,rfl⟩;rw[hR]at II Mw ⊢
 rw[hk]at II Mw TV hk4;clear hR hk
 go_enter func36,ntmps36
 go_wp2_with fail
 go_loopw [4,0] (λv m wr=>∃j:Nat,j < k/\m= .int .i64 (n / 128^j:Nat)/\Hid (aS wr w.heap.size v (R.take j)/\ae w wr [])) (λ_ m _=>(intOf m).toNat)
 case atStart=>exact⟨0,by omega,by simp,zh ⟨xw _ _ _ _,ae.refl _ _⟩⟩
 case round=>
  obtain⟨j,hj,rfl,HJ⟩:=hrel;obtain⟨L,KL⟩:∃L,R.take j=L:=⟨_,rfl⟩;have og:=zh (show L.length=j from by rw[<-KL,dq];have:=II.o;omega);have hst:=Mw.o j hj;rw[KL]at HJ hst;clear KL;obtain⟨A,c,rfl,_⟩:=HJ.o.1.parts;have hm:n / 128^j < 268435456:=zZ (Nat.div_le_self _ _) h;have hmo:=TV.o j hj;have HN:=zh (show n / 128^(j+1)=n / 128^j / 128 by rw[oK,<-Aa])
  generalize n / 128^j=m at*
  have tP:=zh hst;clear hst
  by_cases hge:128<=m
  ·have hd:decide ((m:Int)>=128)=true:=bz (by omega)
   have hy:128+(m:Int) % 128=((iw m).toNat:Int):=by
    unfold iw;rw[aE hge,eP (by omega)];omega
   generalize iw m=y at hy tP
   have hj2:=hmo.1 hge;have e1:((y.toNat:Int) % 256)=(y.toNat:Int):=by have:=y.toNat_lt;omega
   have e2:(m:Int).tmod 128=(m:Int) % 128:=rC (by omega);have HD:=zh (show(m:Int).tdiv 128=((m / 128:Nat):Int)by rw[zT (by omega)];omega);have I6:=zh (show(m:Int) / 128=((m / 128:Nat):Int)by omega);clear hmo;obtain⟨Wb,fg⟩:∃Wb,(wr).alloc (.cells #[.int .u8 (y.toNat:Nat)] 5)=Wb:=⟨_,rfl⟩;have kb:ae (wr) Wb []:=by rw[<-fg];exact ae.alloc _ _
   have rb:=sK (wr) y;rw[fg]at rb;have HA:=zh (And.intro (aM (S:= []) HJ.o.1 kb (by simp)) (And.intro rb (HJ.o.2.ah kb)));have hbs:w.heap.size<=Wb.heap.size:=HA.o.2.2.size;clear kb rb
   go_wp2_with (at_builtin;refine aI _ rfl (.tmp 13) (.tmp 18) rfl w.heap.size (.slice A L.length c) (.slice (some ⟨(wr).heap.size,0,none⟩) 1 1) L [y] rfl rfl HA.o.1 HA.o.2.1 (by have:=og.o;simp;omega) hbs ?_;intro A3 c3 w6 l3 E3 hl3 pF ko wh;refine Hid.o ?_)
   refine zh ?_;have H6:=zh (And.intro pF (HA.o.2.2.trans ko (λx hx hlt=>by have:=(HA.o.1.lt x (by simpa using hx)).1;omega)));have e3:l3=L++ [y]:=E3.o;clear E3 pF ko wh HA fg hbs;have E4:=zh (tP.o.trans e3.symm);clear e3
   go_wp2_with fail
   refine⟨⟨j+1,hj2, ?_,zh ⟨by rw[E4.o];exact H6.o.1,H6.o.2⟩⟩, ?_⟩
   ·rw[HN.o]
    first | rfl | (rw[I6.o]) | (rw[HD.o])
   ·simp only[intOf]
    first | (rw[I6.o];omega) | (rw[HD.o];omega) | omega
  ·have hd:decide ((m:Int)>=128)=false:=aZ (by omega)
   have hy:(m:Int) % 256=((iw m).toNat:Int):=by
    unfold iw;rw[aj hge,eP (by omega)];omega
   have Ul:IntKind.u8.wrap (m:Int)=((iw m).toNat:Int):=by rw[IntKind.wrap_u8',hy]
   generalize iw m=y at hy Ul tP
   have hjk:j+1=k:=by
    have:¬j+1 < k:=λhh=>hge (hmo.2 hh)
    omega
   clear hmo;obtain⟨Wb,fg⟩:∃Wb,(wr).alloc (.cells #[.int .u8 (y.toNat:Nat)] 5)=Wb:=⟨_,rfl⟩;have kb:ae (wr) Wb []:=by rw[<-fg];exact ae.alloc _ _
   have rb:=sK (wr) y;rw[fg]at rb;have HA:=zh (And.intro (aM (S:= []) HJ.o.1 kb (by simp)) (And.intro rb (HJ.o.2.ah kb)));have hbs:w.heap.size<=Wb.heap.size:=HA.o.2.2.size;clear kb rb
   go_wp2_with (at_builtin;refine aI _ rfl (.tmp 22) (.tmp 25) rfl w.heap.size (.slice A L.length c) (.slice (some ⟨(wr).heap.size,0,none⟩) 1 1) L [y] rfl rfl HA.o.1 HA.o.2.1 (by have:=og.o;simp;omega) hbs ?_;intro A3 c3 w6 l3 E3 hl3 pF ko wh;refine Hid.o ?_)
   refine zh ?_;have H6:=zh (And.intro pF (HA.o.2.2.trans ko (λx hx hlt=>by have:=(HA.o.1.lt x (by simpa using hx)).1;omega)));have e3:l3=L++ [y]:=E3.o;clear E3 pF ko wh HA fg hbs;have e4:l3=R:=e3.trans (tP.o.symm.trans (qD (by have:=II.o;omega)));subst e4;clear e3
   go_wp2_with fail
   go_ret2
   exact⟨_,rfl,H6.o⟩
end Go.Proofs.YtahbikfbjenfpaaGreatDoor
