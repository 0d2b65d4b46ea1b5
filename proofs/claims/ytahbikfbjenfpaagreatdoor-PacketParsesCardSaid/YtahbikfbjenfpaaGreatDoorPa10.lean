/- strings.IndexRune at a rune that is no ASCII, of the two signs of filters. strings.IndexAny, strings.ContainsAny with the two signs of filters, of any text. Package topic: said, Name, Plain, Levels, starts, what a level meets. -/
import Derived.Test.YtahbikfbjenfpaaGreatDoorShelf
import Derived.Test.YtahbikfbjenfpaaGreatDoorPa9
import Derived.Laws.RangeAny
import Derived.Deep.LoopGhost
import Derived.Scope
import Derived.Test.YtahbikfbjenfpaaGreatDoorPa1
import Derived.Lib.OthersKept
import Derived.Test.YtahbikfbjenfpaaGreatDoorPa2
import Derived.Test.YtahbikfbjenfpaaGreatDoorPa0
set_option maxHeartbeats 4000000
set_option maxRecDepth 100000
namespace Go.Proofs.YtahbikfbjenfpaaGreatDoor
open Tryz Go.RowKit Go.Shelf

/-- The signs of filters. -/
abbrev qn:ByteArray:={data:= #[43,35]}
theorem FJ (s:ByteArray)(p:Nat)(h:p < s.size)(hb:128<=(s.get! p).toNat):
  128<=(Utf8.decode s p).1/\(Utf8.decode s p).1<=2097151/\p+(Utf8.decode s p).2<=s.size/\0 < (Utf8.decode s p).2/\∀j,p<=j->j < p+(Utf8.decode s p).2->128<=(s.get! j).toNat:=by
 have one:∀j,p<=j->j < p+1->128<=(s.get! j).toNat:=λj h1 h2=>by
  obtain rfl:j=p:=by omega
  exact hb
 have err:∀c:Nat×Nat,c=(Utf8.runeError,1)->128<=c.1/\c.1<=2097151/\p+c.2<=s.size/\0 < c.2/\∀j,p<=j->j < p+c.2->128<=(s.get! j).toNat:=λc hc=>by
  subst hc;exact⟨by decide,by decide,by show p+1<=_;omega,by decide,one⟩
 unfold Utf8.decode;simp only[fj];rw[aj (by omega)];have S_:=(s.get! p).toNat_lt;have Tn:=(s.get! (p+1)).toNat_lt;have Tm:=(s.get! (p+2)).toNat_lt;have Tj:=(s.get! (p+3)).toNat_lt
 split
 ·rename_i hc
  simp only[cR,kX,fA]at hc
  split
  ·refine⟨by show 128<=_;omega,by show _<=2097151;omega,by show p+2<=_;omega,iG _,λj h1 h2=> ?_⟩
   rcases(show j=p\/j=p+1 by simp only at h2;omega)with rfl | rfl
   ·exact hb
   ·omega
  ·exact err _ rfl
 ·split
  ·rename_i hc
   simp only[cR,kX,fA]at hc
   split
   ·rename_i hv
    simp only[cR,fA]at hv;refine⟨by show 128<=_;omega,by show _<=2097151;omega,by show p+3<=_;omega,iG _,λj h1 h2=> ?_⟩
    rcases(show j=p\/j=p+1\/j=p+2 by simp only at h2;omega)with rfl | rfl | rfl
    ·exact hb
    ·omega
    ·omega
   ·exact err _ rfl
  ·split
   ·rename_i hc
    simp only[cR,kX,fA]at hc
    split
    ·rename_i hv
     simp only[cR,fA]at hv;refine⟨by show 128<=_;omega,by show _<=2097151;omega,by show p+4<=_;omega,iG _,λj h1 h2=> ?_⟩
     rcases(show j=p\/j=p+1\/j=p+2\/j=p+3 by simp only at h2;omega)with rfl | rfl | rfl | rfl
     ·exact hb
     ·omega
     ·omega
     ·omega
    ·exact err _ rfl
   ·exact err _ rfl
theorem qE (w:au)(r:Int)(h:128<=r):Calls prog 176 #[.int .i32 r] w λe w' =>e= .returned (.bool (Utf8.valid r))/\w=w' :=by
 by_cases h1:r < 55296
 ·have HV:=zh (show Utf8.valid r=true by unfold Utf8.valid;simp;omega)
  go_enter func176,ntmps176
  go_wp2_with fail
  go_ret;exact⟨by rw[HV.o];rfl,rfl⟩
 ·by_cases h2:57343 < r
  ·by_cases h3:r<=1114111
   ·have HV:=zh (show Utf8.valid r=true by unfold Utf8.valid;simp;omega)
    go_enter func176,ntmps176
    go_wp2_with fail
    go_ret;exact⟨by rw[HV.o];rfl,rfl⟩
   ·have HV:=zh (show Utf8.valid r=false by unfold Utf8.valid;simp;omega)
    go_enter func176,ntmps176
    go_wp2_with fail
    go_ret;exact⟨by rw[HV.o];rfl,rfl⟩
  ·have HV:=zh (show Utf8.valid r=false by unfold Utf8.valid;simp;omega)
   go_enter func176,ntmps176
   go_wp2_with fail
   go_ret;exact⟨by rw[HV.o];rfl,rfl⟩
theorem FH {r:Int}(h:128<=r):2<=(Utf8.encode r).size/\(Utf8.encode r).size<=4/\∀(j:Nat) (hj:j < (Utf8.encode r).size),128<=((Utf8.encode r)[j]'hj).toNat:=by
 have k:∀n:Nat,128<=n->n < 256->128<=(UInt8.ofNat n).toNat:=λn h1 h2=>by
  rw[z_];omega
 obtain⟨c,hc,UB,hcm⟩:∃c:Nat,(if Utf8.valid r then r.toNat else Utf8.runeError)=c/\128<=c/\c<=1114111:=by
  refine⟨_,rfl, ?_⟩
  split
  ·rename_i hv
   unfold Utf8.valid at hv;simp at hv;omega
  ·decide
 have e:Utf8.encode r=if c < 0x800 then⟨#[UInt8.ofNat (0xC0+c / 64),UInt8.ofNat (0x80+c % 64)]⟩
   else if c < 0x10000 then⟨#[UInt8.ofNat (0xE0+c / 4096),UInt8.ofNat (0x80+c / 64 % 64),UInt8.ofNat (0x80+c % 64)]⟩
   else⟨#[UInt8.ofNat (0xF0+c / 262144),UInt8.ofNat (0x80+c / 4096 % 64),UInt8.ofNat (0x80+c / 64 % 64),UInt8.ofNat (0x80+c % 64)]⟩:=by
  unfold Utf8.encode;simp only[hc];rw[aj (by omega)]
 rw[e];clear e hc
 split
 ·refine⟨by show 2<=2;omega,by show 2<=4;omega,λj hj=> ?_⟩
  have hj' :j < 2:=hj
  rcases(show j=0\/j=1 by omega)with rfl | rfl
  ·exact k _ (by omega) (by omega)
  ·exact k _ (by omega) (by omega)
 ·split
  ·refine⟨by show 2<=3;omega,by show 3<=4;omega,λj hj=> ?_⟩
   have hj' :j < 3:=hj
   rcases(show j=0\/j=1\/j=2 by omega)with rfl | rfl | rfl
   ·exact k _ (by omega) (by omega)
   ·exact k _ (by omega) (by omega)
   ·exact k _ (by omega) (by omega)
  ·refine⟨by show 2<=4;omega,by show 4<=4;omega,λj hj=> ?_⟩
   have hj' :j < 4:=hj
   rcases(show j=0\/j=1\/j=2\/j=3 by omega)with rfl | rfl | rfl | rfl
   ·exact k _ (by omega) (by omega)
   ·exact k _ (by omega) (by omega)
   ·exact k _ (by omega) (by omega)
   ·exact k _ (by omega) (by omega)
theorem Di (w:au)(r:Int)(h:128<=r)(hr:r<=2097151):Calls prog 165 #[.string qn,.int .i32 r] w λe w' =>e= .returned (.int .i64 (-1))/\ae w w' []:=by
 by_cases he:r=65533
 ·subst he
  go_enter func165,ntmps165
  go_wp2_with fail
  go_loopg [5,6] 2 (λg _ _ wx=>∃i:Nat,i+g=2/\wx=w.iter qn i)
  case atStart=>exact⟨0,by omega,rfl⟩
  case round=>
   obtain⟨i,hig,rfl⟩:=hrel
   cases gk with
   | zero=>
    obtain rfl:i=2:=by omega
    have hnx:=run_next_end (P:=prog) w qn 2
    go_wp2_with fail
    go_ret;exact⟨rfl,ae.alloc _ _⟩
   | succ g=>
    rcases(show i=0\/i=1 by omega)with rfl | rfl
    ·have hnx:=λty=>run_next_ascii (P:=prog) w qn 0 ty (by decide) (by decide)
     go_wp2_with fail
     go_roundg g
     case measure=>omega
     case rel=>exact⟨1,by omega,rfl⟩
    ·have hnx:=λty=>run_next_ascii (P:=prog) w qn 1 ty (by decide) (by decide)
     go_wp2_with fail
     go_roundg g
     case measure=>omega
     case rel=>exact⟨2,by omega,rfl⟩
 ·have hb:(r==65533)=false:=by simpa using he
  have h1:¬r < 128:=by omega
  cases hv:Utf8.valid r with
  | false=>
   have HV:=zh hv;clear hv he
   go_enter func165,ntmps165
   go_wp2_with fail
   refine(qE w r h).mono ?_;rintro e w' ⟨rfl,rfl⟩;rw[HV.o]
   go_wp2_with fail
   go_ret;exact⟨rfl,ae.refl _ _⟩
  | true=>
   have HV:=zh hv;clear hv he
   go_enter func165,ntmps165
   go_wp2_with fail
   refine(qE w r h).mono ?_;rintro e w' ⟨rfl,rfl⟩;rw[HV.o]
   go_wp2_with fail
   obtain⟨E,hE⟩:∃E,Utf8.encode r=E:=⟨_,rfl⟩;obtain⟨e1,e2,e3⟩:=FH h;rw[hE]at e1 e2 e3;obtain⟨c,hc1,UB⟩:∃c:UInt8,(∀h:1 < E.size,E[1]'h=c)/\128<=c.toNat:=⟨E[1]'(by omega),λ_=>rfl,e3 1 (by omega)⟩;clear e3;refine wp_scope_straight ?_
   rcases(show E.size=2\/E.size=3\/E.size=4 by omega)with hsz | hsz | hsz
   ·go_wp2_with fail
    go_loopw [9] (λi wr=>i= .int .i64 1/\wr=w) (λ_ _=>0)
    case atStart=>exact⟨rfl,rfl⟩
    case round=>
     obtain⟨rfl,rfl⟩:=hrel;have Uy:∀h:1 < qn.size,qn[1]'h=35:=λ_=>rfl
     have hne:((35:Int)==(c.toNat:Int))=false:=by simp;omega
     have hw2:IntKind.i64.wrap 2=2:=IntWalk.i64_in _ (by omega);have hib:Lib.indexByte [] c= -1:=rfl
     go_wp2_with fail
     refine wp_scope_straight ?_
     go_wp2_with fail
     refine aB _ (by kernel_rfl) rfl (by kernel_rfl) ?_
     iterate 7
      refine ls ?_;simp only[af]
     refine aq (λW vals hW ag=> ?_);simp only[aw]at ag
     try simp only[ai]at ag
     simp only[fill,Act.put,bo,bn,bh];clear ag;have HW:=zh hW;clear hW
     go_wp2_with fail
     refine aB _ (by kernel_rfl) rfl (by kernel_rfl) ?_
     iterate 7
      refine ls ?_;simp only[af]
     apply ak
     ·intro W vals hW ag
      clear ag;refine⟨?_⟩;simp only[fill];go_simp;refine aC ?_;exact(Tryz.strings_IndexByte _ _ _).mono (by rintro e w3 ⟨rfl,rfl⟩;exact⟨_,rfl,ae.refl _ _,rfl⟩)
     simp only[af];refine ls ?_;simp only[af];refine aq (λW vals hW ag=> ?_);simp only[aw]at ag
     try simp only[ai]at ag
     simp only[fill,Act.put,bo,bn,bh];clear ag;have oH:=zh (HW.o.ah hW);clear hW
     go_wp2_with fail
     simp+zetaDelta only[Exit.noGoto,Exit.inBlock,Exit.then];go_ret;exact⟨rfl,oH.o⟩
   ·go_wp2_with fail
    go_loopw [9] (λi wr=>i= .int .i64 2/\wr=w) (λ_ _=>0)
    case atStart=>exact⟨rfl,rfl⟩
    case round=>
     obtain⟨rfl,rfl⟩:=hrel
     go_wp2_with fail
     simp+zetaDelta only[Exit.noGoto,Exit.inBlock];go_ret;exact⟨rfl,ae.refl _ _⟩
   ·go_wp2_with fail
    go_loopw [9] (λi wr=>i= .int .i64 3/\wr=w) (λ_ _=>0)
    case atStart=>exact⟨rfl,rfl⟩
    case round=>
     obtain⟨rfl,rfl⟩:=hrel
     go_wp2_with fail
     simp+zetaDelta only[Exit.noGoto,Exit.inBlock];go_ret;exact⟨rfl,ae.refl _ _⟩

theorem rM (b:UInt8): [43,35].contains b=(b==43 || b==35):=by
 simp[List.contains,List.elem]
 rcases Bool.eq_false_or_eq_true (b==43)with h | h <;> rcases Bool.eq_false_or_eq_true (b==35)with h' | h' <;> simp[h,h']
theorem wW (s:aG):0<=Lib.indexAny s [43,35]↔gT s=true:=by
 induction s with
 | nil=>simp[Lib.indexAny,gT]
 | cons b s ih=>
  unfold Lib.indexAny gT;rw[rM,List.any_cons]
  cases hb:(b==43 || b==35)with
  | true=>simp
  | false=>
   simp only[zY,jC,Bool.false_or];have hg:=Lib.indexAny_ge [43,35] s;unfold gT at ih;rw[<-ih]
   split
   ·rename_i h
    have:=beq_iff_eq.1 h;omega
   ·rename_i h
    have:¬Lib.indexAny s [43,35]= -1:=λe=>h (beq_iff_eq.2 e)
    omega
theorem Ja (w:au):(zeroValue 175).run prog w= .ok (.agg (Array.replicate 256 (.bool false))) w:=by kernel_rfl
/-- What IndexAny answers. -/
def zJ (w:au)(s:aG)(e:Ending)(w' :au):Prop:=∃z:Int,e= .returned (.int .i64 z)/\(0<=z↔gT s=true)/\ae w w' []
theorem Bp (w:au)(s:aG)(h8:8 < s.length)(hs:s.length<=60000):Calls prog 156 #[.string ⟨s.toArray⟩,.string qn] w (zJ w s):=by
 refine(Tryz.strings_IndexAny_long Ja ⟨s.toArray⟩ qn w (by decide) h8 (show s.length < 4294967281 by omega) (by decide) (λj b hb=> ?_)).mono ?_
 ·have hb' : [43,35][j]? =some b:=hb
  rcases(show j=0\/j=1\/2<=j by omega)with rfl | rfl | hj
  ·simp at hb';rw[<-hb'];decide
  ·simp at hb';rw[<-hb'];decide
  ·rw[List.getElem?_eq_none (by simpa using hj)]at hb';cases hb'
 ·rintro e w' ⟨rfl,rfl⟩
  exact⟨_,rfl,wW s,(ae.alloc _ _).bX _⟩
/-- No sign ahead of a place. -/
def Eo (s:aG)(i:Nat):Prop:=∀j b,j < i->s[j]? =some b->(b==43 || b==35)=false
theorem Fp {s:aG}(h:Eo s s.length):gT s=false:=by
 unfold gT;rw[List.any_eq_false];intro b hb;obtain⟨j,hj,e⟩:=List.getElem_of_mem hb;have:=h j b hj (by rw[rE hj,e]);simp at this ⊢
 exact this
theorem wO (w:au)(n:Int)(h:n<=8):Calls prog 166 #[.int .i64 n] w λe w' =>e= .returned (.bool false)/\w=w' :=by
 have hd:¬8 < n:=by omega
 clear h
 go_enter func166,ntmps166
 go_wp2
 go_ret;exact⟨rfl,rfl⟩
theorem ae.iterAt {w w' :au}(h:ae w w' [])(s:ByteArray)(p:Nat):ae w (w'.iterAt w.heap.size s p) []:=
 ⟨h.os,h.tape,h.output,by simpa [World.iterAt]using h.size,λk hk hs=>by
  have:=h.block k hk hs;rw[<-this];simp only[World.iterAt];rw[oJ (by omega)]⟩
theorem zf (w:au)(s:aG)(h8:s.length<=8):Calls prog 156 #[.string ⟨s.toArray⟩,.string qn] w (zJ w s):=by
 obtain⟨S,hS⟩:∃S:ByteArray,(⟨s.toArray⟩:ByteArray)=S:=⟨_,rfl⟩;have hsz:S.size=s.length:=by rw[<-hS];rfl
 have HS:=zh (And.intro hS hsz);rw[hS];clear hS hsz
 go_enter func156,ntmps156
 go_wp2_with fail
 refine(wO w _ (by rw[HS.o.2];omega)).mono ?_;rintro e w' ⟨rfl,rfl⟩
 go_wp2_with fail
 go_loopg [9,10] S.size (λg _ _ wx=>∃i:Nat,i+g=S.size/\Hid (wx.heap[w.heap.size]? =some (.stringIter S i)/\ae w wx []/\Eo s i))
 case atStart=>exact⟨0,by omega,zh ⟨World.iter_heap w S 0,ae.alloc _ _,λj b hj=>absurd hj (Nat.not_lt_zero _)⟩⟩
 case round=>
  obtain⟨i,hig,HR⟩:=hrel
  cases gk with
  | zero=>
   obtain rfl:i=S.size:=by omega
   have hnx:=λty=>Lib.run_next_end_at (P:=prog) wr w.heap.size S S.size ty HR.o.1 (by omega)
   go_wp2_with fail
   go_ret;have hn:gT s=false:=Fp (by rw[<-HS.o.2];exact HR.o.2.2);exact⟨-1,rfl,by rw[hn];simp,HR.o.2.1⟩
  | succ g=>
   have hi:i < S.size:=by omega
   have hil:i < s.length:=by rw[<-HS.o.2];exact hi
   obtain⟨b,hb⟩:∃b,s[i]=b:=⟨_,rfl⟩;have OB:S[i]'hi=b:=by rw[gV HS.o.1 hil hi,hb]
   by_cases UE:b.toNat < 128
   ·have hnx:=λty=>Lib.run_next_ascii_at (P:=prog) wr w.heap.size S i ty HR.o.1 hi (by rw[OB];exact UE)
    rw[OB]at hnx;obtain⟨W1,hW1⟩:∃W1,wr.iterAt w.heap.size S (i+1)=W1:=⟨_,rfl⟩;rw[hW1]at hnx;have H1:=zh (show W1.heap[w.heap.size]? =some (.stringIter S (i+1))/\ae w W1 []from by
     rw[<-hW1];exact⟨Lib.iterAt_heap wr w.heap.size S i (i+1) HR.o.1,HR.o.2.1.iterAt S (i+1)⟩)
    have hback:((b.toNat:Int)).toNat.toUInt8=b:=by simp
    have hcon:=Lib.contains_iff_indexByte [43,35] b;rw[rM]at hcon;have HB:=zh hb;clear hW1 OB hb
    cases hin:(b==43 || b==35)with
    | false=>
     rw[hin]at hcon;have HN:=zh (show Eo s (i+1)from λj y hj hy=>by
      rcases eS j i with h | h
      ·exact HR.o.2.2 j y h hy
      ·obtain rfl:j=i:=by omega
       rw[rE hil,HB.o]at hy;injection hy with hy
       rw[<-hy];exact hin)
     have hlt:¬((0:Int)<=Lib.indexByte [43,35] b):=xo hcon.symm;obtain⟨z,hz⟩:∃z,Lib.indexByte [43,35] b=z:=⟨_,rfl⟩;have HZ:=zh hz;rw[hz]at hlt;clear hcon hin hz
     go_wp2_with fail
     refine(Tryz.strings_IndexRune_ascii qn _ _ (by omega) (by omega)).mono ?_;rintro e w' ⟨rfl,rfl⟩;rw[hback,show(qn:ByteArray).data.toList= [43,35]from rfl,HZ.o]
     go_wp2_with fail
     go_roundg g
     case measure=>omega
     case rel=>exact⟨i+1,by omega,zh ⟨H1.o.1,H1.o.2,HN.o⟩⟩
    | true=>
     rw[hin]at hcon;have HN:=zh (show gT s=true by
      unfold gT;rw[List.any_eq_true];exact⟨b,by rw[<-HB.o];exact fS hil,hin⟩)
     have hlt:(0:Int)<=Lib.indexByte [43,35] b:=qj hcon.symm;obtain⟨z,hz⟩:∃z,Lib.indexByte [43,35] b=z:=⟨_,rfl⟩;have HZ:=zh hz;rw[hz]at hlt;clear hcon hin hz
     go_wp2_with fail
     refine(Tryz.strings_IndexRune_ascii qn _ _ (by omega) (by omega)).mono ?_;rintro e w' ⟨rfl,rfl⟩;rw[hback,show(qn:ByteArray).data.toList= [43,35]from rfl,HZ.o]
     go_wp2_with fail
     go_ret;exact⟨_,rfl,⟨λ_=>HN.o,λ_=>by omega⟩,H1.o.2⟩
   ·have hg:S.get! i=b:=by
     rw[<-OB];simp[ByteArray.get!,getElem!_pos,hi];rfl
    obtain⟨d1,d2,d3,d4,d5⟩:=FJ S i hi (by rw[hg];omega);have hnx:=λty=>Lib.run_next_any_at (P:=prog) wr w.heap.size S i ty HR.o.1 hi
    obtain⟨c,hc⟩:∃c,(Utf8.decode S i).1=c:=⟨_,rfl⟩;obtain⟨k,hk⟩:∃k,(Utf8.decode S i).2=k:=⟨_,rfl⟩;rw[hc]at d1 d2 hnx;rw[hk]at d3 d4 d5 hnx;obtain⟨W1,hW1⟩:∃W1,wr.iterAt w.heap.size S (i+k)=W1:=⟨_,rfl⟩;rw[hW1]at hnx;have H1:=zh (show W1.heap[w.heap.size]? =some (.stringIter S (i+k))/\ae w W1 []from by
     rw[<-hW1];exact⟨Lib.iterAt_heap wr w.heap.size S i (i+k) HR.o.1,HR.o.2.1.iterAt S (i+k)⟩)
    have HN:=zh (show Eo s (i+k)from λj y hj hy=>by
     rcases eS j i with h | h
     ·exact HR.o.2.2 j y h hy
     ·have h5:=d5 j h hj
      have Q6:j < S.size:=by omega
      have hjl:j < s.length:=by rw[<-HS.o.2];exact Q6
      have e:S.get! j=s[j]:=by
       rw[<-gV HS.o.1 hjl Q6];simp[ByteArray.get!,getElem!_pos,Q6];rfl
      rw[rE hjl]at hy;injection hy with hy
      rw[e,hy]at h5;have n1:(y==43)=false:=by
       rw[tS];rintro rfl
       revert h5;decide
      have n2:(y==35)=false:=by
       rw[tS];rintro rfl
       revert h5;decide
      rw[n1,n2];rfl)
    have T4:=zh (And.intro d3 d4);clear hW1 OB hb hg hc hk d5
    go_wp2_with fail
    refine(Di _ (c:Int) (by omega) (by omega)).mono ?_;rintro e w' ⟨rfl,hk⟩;have H2:=zh hk;clear hk
    go_wp2_with fail
    go_roundg (S.size - (i+k))
    case measure=>have:=T4.o;omega
    case rel=>exact⟨i+k,by have:=T4.o;omega,zh ⟨(H2.o.block _ (Array.getElem?_eq_some_iff.1 H1.o.1).1 (by simp)).trans H1.o.1,H1.o.2.ah H2.o,HN.o⟩⟩
theorem Dk (w:au)(s:aG)(hs:s.length<=60000):Calls prog 156 #[.string ⟨s.toArray⟩,.string qn] w (zJ w s):=by
 by_cases h:s.length<=8
 ·exact zf w s h
 ·exact Bp w s (by omega) hs
theorem q_ (w:au)(s:aG)(hs:s.length<=60000):Calls prog 118 #[.string ⟨s.toArray⟩,.string qn] w λe w' =>e= .returned (.bool (gT s))/\ae w w' []:=by
 obtain⟨S,hS⟩:∃S:ByteArray,(⟨s.toArray⟩:ByteArray)=S:=⟨_,rfl⟩;have HS:=zh hS;rw[hS];clear hS
 go_enter func118,ntmps118
 go_wp2_with fail
 rw[<-HS.o];refine(Dk w s hs).mono ?_;rintro e w1 ⟨z,rfl,hz,hk⟩;have HK:=zh hk;clear hk
 by_cases h0:0<=z
 ·have HG:=zh (hz.1 h0)
  clear hz
  go_wp2_with fail
  go_ret;refine⟨?_,HK.o⟩;rw[HG.o];simp
 ·have HG:=zh (show gT s=false by
   cases h:gT s with
   | false=>rfl
   | true=>exact absurd (hz.2 h) h0)
  clear hz
  go_wp2_with fail
  go_ret;refine⟨?_,HK.o⟩;rw[HG.o];simp[h0]

theorem J8 (s:aG){S:ByteArray}(hS:(⟨s.toArray⟩:ByteArray)=S):S.toList.isEmpty=decide (s.length=0):=by
 rw[<-hS,Lib.toList_data]
 cases s <;> simp
theorem xK (w:au)(s:aG)(hs:s.length<=60000):Calls prog 119 #[.string ⟨s.toArray⟩] w λe w' =>e= .returned (.bool (gU s))/\ae w w' []:=by
 obtain⟨S,hS⟩:∃S:ByteArray,(⟨s.toArray⟩:ByteArray)=S:=⟨_,rfl⟩;have hsz:S.size=s.length:=by rw[<-hS];rfl
 have hem:=J8 s hS;have HS:=zh hS;rw[hS];clear hS
 by_cases h0:s.length=0
 ·have HT:=zh (show gU s=false by unfold gU;simp;omega)
  rw[bz h0]at hem;clear h0
  go_enter func119,ntmps119
  go_wp2_with fail
  go_ret;exact⟨by rw[HT.o];rfl,ae.refl _ _⟩
 ·rw[aZ h0]at hem
  by_cases h2:s.length<=200
  ·have HT:=zh (show gU s=fB s by unfold gU;simp[h2,show 1<=s.length by omega])
   have hL:(s.length:Int)<=200:=by omega
   clear h0 h2
   go_enter func119,ntmps119
   go_wp2_with fail
   rw[<-HS.o];refine(uZ w s hs).mono ?_;rintro e w1 ⟨rfl,hk⟩;rw[HS.o];have HK:=zh hk;clear hk
   cases hg:fB s with
   | true=>
    have hc:oU s=0:=by unfold oU;rw[hg];rfl
    rw[hc];rw[hg]at HT;clear hg
    go_wp2_with fail
    go_ret;exact⟨by rw[HT.o];rfl,HK.o⟩
   | false=>
    have hc:oU s=220:=by unfold oU;rw[hg];rfl
    rw[hc];rw[hg]at HT;clear hg
    go_wp2_with fail
    go_ret;exact⟨by rw[HT.o];rfl,HK.o⟩
  ·have HT:=zh (show gU s=false by unfold gU;simp;omega)
   have hL:¬(s.length:Int)<=200:=by omega
   clear h0 h2
   go_enter func119,ntmps119
   go_wp2_with fail
   go_ret;exact⟨by rw[HT.o];rfl,ae.refl _ _⟩
theorem xL (w:au)(s:aG)(hs:s.length<=60000):Calls prog 126 #[.string ⟨s.toArray⟩] w λe w' =>e= .returned (.bool (fW s))/\ae w w' []:=by
 obtain⟨S,hS⟩:∃S:ByteArray,(⟨s.toArray⟩:ByteArray)=S:=⟨_,rfl⟩;have HS:=zh hS;rw[hS];clear hS
 go_enter func126,ntmps126
 go_wp2_with fail
 rw[<-HS.o];refine(xK w s hs).mono ?_;rintro e w1 ⟨rfl,hk⟩;rw[HS.o];have HK:=zh hk;clear hk
 cases hg:gU s with
 | false=>
  have HT:=zh (show fW s=false by unfold fW;rw[hg];rfl);clear hg
  go_wp2_with fail
  go_ret;exact⟨by rw[HT.o];rfl,HK.o⟩
 | true=>
  have HT:=zh (show fW s= !gT s by unfold fW;rw[hg];rfl);clear hg
  go_wp2_with fail
  rw[<-HS.o];refine(q_ w1 s hs).mono ?_;rintro e w2 ⟨rfl,hk⟩;rw[HS.o];have lN:=zh (HK.o.ah hk);clear hk
  go_wp2_with fail
  go_ret;exact⟨by rw[HT.o];rfl,lN.o⟩
/-- Texts in a block. -/
def IW (l:List aG):Array Value:=(l.flatMap fC).toArray
theorem xN (s:aG):((Lib.splitB ⟨#[47]⟩ 0 (Lib.countB ⟨s.toArray⟩ ⟨#[47]⟩) ⟨s.toArray⟩).map Value.string).toArray=IW (dH s)/\Lib.countB ⟨s.toArray⟩ ⟨#[47]⟩+1=(dH s).length:=by
 have h1:=Lib.splitB_data ⟨#[47]⟩ 0 (Lib.countB ⟨s.toArray⟩ ⟨#[47]⟩) ⟨s.toArray⟩;have h2:Lib.splitK (⟨#[47]⟩:ByteArray).data.toList 0 (Lib.countB ⟨s.toArray⟩ ⟨#[47]⟩) (⟨s.toArray⟩:ByteArray).data.toList=dH s:=EJ s;rw[h2]at h1;have h3:=Lib.splitB_all ⟨#[47]⟩ (by decide) 0 (Lib.countB ⟨s.toArray⟩ ⟨#[47]⟩) ⟨s.toArray⟩ rfl
 constructor
 ·unfold IW
  congr 1
  rw[<-h1]
  generalize Lib.splitB ⟨#[47]⟩ 0 (Lib.countB ⟨s.toArray⟩ ⟨#[47]⟩) ⟨s.toArray⟩=L
  induction L with
  | nil=>rfl
  | cons a L ih=>rw[eu,eu,kA,<-ih];rfl
 ·rw[<-h3,<-h1,xF]
theorem Aj (w:au)(s:aG)(hs:s.length<=60000)(hm:lG w):Calls prog 117 #[.string ⟨s.toArray⟩] w λe w' =>e= .returned (.slice (some ⟨w.heap.size,0,none⟩) (dH s).length (dH s).length)/\w' =w.alloc (.cells (IW (dH s)) 9):=by
 obtain⟨m,hm⟩:=hm;obtain⟨S,hS⟩:∃S:ByteArray,(⟨s.toArray⟩:ByteArray)=S:=⟨_,rfl⟩;have HS:=zh hS;have HM:=zh hm;rw[hS];clear hS hm
 go_enter func117,ntmps117
 go_wp2_with fail
 rw[<-HS.o];refine(Tryz.strings_Split ⟨s.toArray⟩ ⟨#[47]⟩ m w (show s.length < 4294967281 by omega) HM.o (by decide)).mono ?_;rintro e w1 ⟨rfl,rfl⟩;rw[(xN s).1,(xN s).2]
 go_wp2_with fail
 go_ret;exact⟨rfl,rfl⟩
end Go.Proofs.YtahbikfbjenfpaaGreatDoor
