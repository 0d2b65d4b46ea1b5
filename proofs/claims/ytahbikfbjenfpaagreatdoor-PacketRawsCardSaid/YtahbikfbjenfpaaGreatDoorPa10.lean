/- strings.IndexRune at a rune that is no ASCII, of the two signs of filters. strings.IndexAny, strings.ContainsAny with the two signs of filters, of any text. Package topic: said, Name, Plain, Levels, starts, what a level meets. -/
import Derived.Test.YtahbikfbjenfpaaGreatDoorShelf
import Derived.Test.YtahbikfbjenfpaaGreatDoorPa9
import Derived.Laws.RangeAny
import Derived.Deep.LoopGhost
import Derived.Scope
import Derived.Test.YtahbikfbjenfpaaGreatDoorPa1
import Derived.Lib.OthersKept
import Derived.Test.YtahbikfbjenfpaaGreatDoorPa2
import Derived.Test.YtahbikfbjenfpaaGreatDoorPa0

namespace Go.Proofs.YtahbikfbjenfpaaGreatDoor
open Go.RowKit Go.Shelf

/-- The signs of filters. -/
abbrev sgnS:ByteArray:={data:= #[43,35]}
theorem decode_hi (s:ByteArray)(p:Nat)(h:p < s.size)(hb:128≤(s.get! p).toNat):
  128≤(Utf8.decode s p).1∧(Utf8.decode s p).1≤2097151∧p+(Utf8.decode s p).2≤s.size∧0 < (Utf8.decode s p).2∧∀j,p≤j→j < p+(Utf8.decode s p).2→128≤(s.get! j).toNat:=by
 have one:∀j,p≤j→j < p+1→128≤(s.get! j).toNat:=fun j h1 h2=>by
  obtain rfl:j=p:=by omega
  exact hb
 have err:∀c:Nat×Nat,c=(Utf8.runeError,1)→128≤c.1∧c.1≤2097151∧p+c.2≤s.size∧0 < c.2∧∀j,p≤j→j < p+c.2→128≤(s.get! j).toNat:=fun c hc=>by
  subst hc;exact⟨by decide,by decide,by show p+1≤_;omega,by decide,one⟩
 unfold Utf8.decode;simp only[Nat.add_zero];rw[if_neg (by omega)];have hb256:=(s.get! p).toNat_lt;have h1256:=(s.get! (p+1)).toNat_lt;have h2256:=(s.get! (p+2)).toNat_lt;have h3256:=(s.get! (p+3)).toNat_lt
 split
 ·rename_i hc
  simp only[Bool.and_eq_true,beq_iff_eq,decide_eq_true_eq]at hc
  split
  ·refine⟨by show 128≤_;omega,by show _≤2097151;omega,by show p+2≤_;omega,Nat.succ_pos _,fun j h1 h2=> ?_⟩
   rcases(show j=p∨j=p+1 by simp only at h2;omega)with rfl | rfl
   ·exact hb
   ·omega
  ·exact err _ rfl
 ·split
  ·rename_i hc
   simp only[Bool.and_eq_true,beq_iff_eq,decide_eq_true_eq]at hc
   split
   ·rename_i hv
    simp only[Bool.and_eq_true,decide_eq_true_eq]at hv;refine⟨by show 128≤_;omega,by show _≤2097151;omega,by show p+3≤_;omega,Nat.succ_pos _,fun j h1 h2=> ?_⟩
    rcases(show j=p∨j=p+1∨j=p+2 by simp only at h2;omega)with rfl | rfl | rfl
    ·exact hb
    ·omega
    ·omega
   ·exact err _ rfl
  ·split
   ·rename_i hc
    simp only[Bool.and_eq_true,beq_iff_eq,decide_eq_true_eq]at hc
    split
    ·rename_i hv
     simp only[Bool.and_eq_true,decide_eq_true_eq]at hv;refine⟨by show 128≤_;omega,by show _≤2097151;omega,by show p+4≤_;omega,Nat.succ_pos _,fun j h1 h2=> ?_⟩
     rcases(show j=p∨j=p+1∨j=p+2∨j=p+3 by simp only at h2;omega)with rfl | rfl | rfl | rfl
     ·exact hb
     ·omega
     ·omega
     ·omega
    ·exact err _ rfl
   ·exact err _ rfl
set_option maxRecDepth 100000 in
set_option maxHeartbeats 4000000 in
theorem validRune_any (w:World)(r:Int)(h:128≤r):Calls Tryz.prog 176 #[.int .i32 r] w fun e w' =>e= .returned (.bool (Utf8.valid r))∧w=w' :=by
 by_cases h1:r < 55296
 ·have HV:=zh (show Utf8.valid r=true by unfold Utf8.valid;simp;omega)
  go_enter Tryz.func176,Tryz.ntmps176
  go_wp2_with fail
  go_ret;exact⟨by rw[HV.out];rfl,rfl⟩
 ·by_cases h2:57343 < r
  ·by_cases h3:r≤1114111
   ·have HV:=zh (show Utf8.valid r=true by unfold Utf8.valid;simp;omega)
    go_enter Tryz.func176,Tryz.ntmps176
    go_wp2_with fail
    go_ret;exact⟨by rw[HV.out];rfl,rfl⟩
   ·have HV:=zh (show Utf8.valid r=false by unfold Utf8.valid;simp;omega)
    go_enter Tryz.func176,Tryz.ntmps176
    go_wp2_with fail
    go_ret;exact⟨by rw[HV.out];rfl,rfl⟩
  ·have HV:=zh (show Utf8.valid r=false by unfold Utf8.valid;simp;omega)
   go_enter Tryz.func176,Tryz.ntmps176
   go_wp2_with fail
   go_ret;exact⟨by rw[HV.out];rfl,rfl⟩
theorem encode_hi {r:Int}(h:128≤r):2≤(Utf8.encode r).size∧(Utf8.encode r).size≤4∧∀(j:Nat) (hj:j < (Utf8.encode r).size),128≤((Utf8.encode r)[j]'hj).toNat:=by
 have k:∀n:Nat,128≤n→n < 256→128≤(UInt8.ofNat n).toNat:=fun n h1 h2=>by
  rw[UInt8.toNat_ofNat'];omega
 obtain⟨c,hc,hc8,hcm⟩:∃c:Nat,(if Utf8.valid r then r.toNat else Utf8.runeError)=c∧128≤c∧c≤1114111:=by
  refine⟨_,rfl, ?_⟩
  split
  ·rename_i hv
   unfold Utf8.valid at hv;simp at hv;omega
  ·decide
 have e:Utf8.encode r=if c < 0x800 then⟨#[UInt8.ofNat (0xC0+c / 64),UInt8.ofNat (0x80+c % 64)]⟩
   else if c < 0x10000 then⟨#[UInt8.ofNat (0xE0+c / 4096),UInt8.ofNat (0x80+c / 64 % 64),UInt8.ofNat (0x80+c % 64)]⟩
   else⟨#[UInt8.ofNat (0xF0+c / 262144),UInt8.ofNat (0x80+c / 4096 % 64),UInt8.ofNat (0x80+c / 64 % 64),UInt8.ofNat (0x80+c % 64)]⟩:=by
  unfold Utf8.encode;simp only[hc];rw[if_neg (by omega)]
 rw[e];clear e hc
 split
 ·refine⟨by show 2≤2;omega,by show 2≤4;omega,fun j hj=> ?_⟩
  have hj' :j < 2:=hj
  rcases(show j=0∨j=1 by omega)with rfl | rfl
  ·exact k _ (by omega) (by omega)
  ·exact k _ (by omega) (by omega)
 ·split
  ·refine⟨by show 2≤3;omega,by show 3≤4;omega,fun j hj=> ?_⟩
   have hj' :j < 3:=hj
   rcases(show j=0∨j=1∨j=2 by omega)with rfl | rfl | rfl
   ·exact k _ (by omega) (by omega)
   ·exact k _ (by omega) (by omega)
   ·exact k _ (by omega) (by omega)
  ·refine⟨by show 2≤4;omega,by show 4≤4;omega,fun j hj=> ?_⟩
   have hj' :j < 4:=hj
   rcases(show j=0∨j=1∨j=2∨j=3 by omega)with rfl | rfl | rfl | rfl
   ·exact k _ (by omega) (by omega)
   ·exact k _ (by omega) (by omega)
   ·exact k _ (by omega) (by omega)
   ·exact k _ (by omega) (by omega)
set_option maxRecDepth 100000 in
set_option maxHeartbeats 4000000 in
theorem idxRune_hi (w:World)(r:Int)(h:128≤r)(hr:r≤2097151):Calls Tryz.prog 165 #[.string sgnS,.int .i32 r] w fun e w' =>e= .returned (.int .i64 (-1))∧Keeps w w' []:=by
 by_cases he:r=65533
 ·subst he
  go_enter Tryz.func165,Tryz.ntmps165
  go_wp2_with fail
  go_loopg [5,6] 2 (fun g _ _ wx=>∃i:Nat,i+g=2∧wx=w.iter sgnS i)
  case atStart=>exact⟨0,by omega,rfl⟩
  case round=>
   obtain⟨i,hig,rfl⟩:=hrel
   cases gk with
   | zero=>
    obtain rfl:i=2:=by omega
    have hnx:=run_next_end (P:=Tryz.prog) w sgnS 2
    go_wp2_with fail
    go_ret;exact⟨rfl,Keeps.alloc _ _⟩
   | succ g=>
    rcases(show i=0∨i=1 by omega)with rfl | rfl
    ·have hnx:=fun ty=>run_next_ascii (P:=Tryz.prog) w sgnS 0 ty (by decide) (by decide)
     go_wp2_with fail
     go_roundg g
     case measure=>omega
     case rel=>exact⟨1,by omega,rfl⟩
    ·have hnx:=fun ty=>run_next_ascii (P:=Tryz.prog) w sgnS 1 ty (by decide) (by decide)
     go_wp2_with fail
     go_roundg g
     case measure=>omega
     case rel=>exact⟨2,by omega,rfl⟩
 ·have hb:(r==65533)=false:=by simpa using he
  have h1:¬r < 128:=by omega
  cases hv:Utf8.valid r with
  | false=>
   have HV:=zh hv;clear hv he
   go_enter Tryz.func165,Tryz.ntmps165
   go_wp2_with fail
   refine(validRune_any w r h).mono ?_;rintro e w' ⟨rfl,rfl⟩;rw[HV.out]
   go_wp2_with fail
   go_ret;exact⟨rfl,Keeps.refl _ _⟩
  | true=>
   have HV:=zh hv;clear hv he
   go_enter Tryz.func165,Tryz.ntmps165
   go_wp2_with fail
   refine(validRune_any w r h).mono ?_;rintro e w' ⟨rfl,rfl⟩;rw[HV.out]
   go_wp2_with fail
   obtain⟨E,hE⟩:∃E,Utf8.encode r=E:=⟨_,rfl⟩;obtain⟨e1,e2,e3⟩:=encode_hi h;rw[hE]at e1 e2 e3;obtain⟨c,hc1,hc8⟩:∃c:UInt8,(∀h:1 < E.size,E[1]'h=c)∧128≤c.toNat:=⟨E[1]'(by omega),fun _=>rfl,e3 1 (by omega)⟩;clear e3;refine wp_scope_straight ?_
   rcases(show E.size=2∨E.size=3∨E.size=4 by omega)with hsz | hsz | hsz
   ·go_wp2_with fail
    go_loopw [9] (fun i wr=>i= .int .i64 1∧wr=w) (fun _ _=>0)
    case atStart=>exact⟨rfl,rfl⟩
    case round=>
     obtain⟨rfl,rfl⟩:=hrel;have hidx:∀h:1 < sgnS.size,sgnS[1]'h=35:=fun _=>rfl
     have hne:((35:Int)==(c.toNat:Int))=false:=by simp;omega
     have hw2:IntKind.i64.wrap 2=2:=IntWalk.i64_in _ (by omega);have hib:Lib.indexByte [] c= -1:=rfl
     go_wp2_with fail
     refine wp_scope_straight ?_
     go_wp2_with fail
     refine wp_region_keeps _ (by kernel_rfl) rfl (by kernel_rfl) ?_
     iterate 7
      refine ls ?_;simp only[addEnt]
     refine loose_nil (fun W vals hW hkn=> ?_);simp only[knowsAll]at hkn
     try simp only[and_true]at hkn
     simp only[fill,Act.put,zsa,zsc,zsz];clear hkn;have HW:=zh hW;clear hW
     go_wp2_with fail
     refine wp_region_keeps _ (by kernel_rfl) rfl (by kernel_rfl) ?_
     iterate 7
      refine ls ?_;simp only[addEnt]
     apply loose_is
     ·intro W vals hW hkn
      clear hkn;refine⟨?_⟩;simp only[fill];go_simp;refine looseUpon_calls ?_;exact(Tryz.strings_IndexByte _ _ _).mono (by rintro e w3 ⟨rfl,rfl⟩;exact⟨_,rfl,Keeps.refl _ _,rfl⟩)
     simp only[addEnt];refine ls ?_;simp only[addEnt];refine loose_nil (fun W vals hW hkn=> ?_);simp only[knowsAll]at hkn
     try simp only[and_true]at hkn
     simp only[fill,Act.put,zsa,zsc,zsz];clear hkn;have HW2:=zh (HW.out.then_ hW);clear hW
     go_wp2_with fail
     simp+zetaDelta only[Exit.noGoto,Exit.inBlock,Exit.then];go_ret;exact⟨rfl,HW2.out⟩
   ·go_wp2_with fail
    go_loopw [9] (fun i wr=>i= .int .i64 2∧wr=w) (fun _ _=>0)
    case atStart=>exact⟨rfl,rfl⟩
    case round=>
     obtain⟨rfl,rfl⟩:=hrel
     go_wp2_with fail
     simp+zetaDelta only[Exit.noGoto,Exit.inBlock];go_ret;exact⟨rfl,Keeps.refl _ _⟩
   ·go_wp2_with fail
    go_loopw [9] (fun i wr=>i= .int .i64 3∧wr=w) (fun _ _=>0)
    case atStart=>exact⟨rfl,rfl⟩
    case round=>
     obtain⟨rfl,rfl⟩:=hrel
     go_wp2_with fail
     simp+zetaDelta only[Exit.noGoto,Exit.inBlock];go_ret;exact⟨rfl,Keeps.refl _ _⟩

theorem sgn_contains (b:UInt8): [43,35].contains b=(b==43 || b==35):=by
 simp[List.contains,List.elem]
 rcases Bool.eq_false_or_eq_true (b==43)with h | h <;> rcases Bool.eq_false_or_eq_true (b==35)with h' | h' <;> simp[h,h']
theorem indexAny_sign (s:List UInt8):0≤Lib.indexAny s [43,35]↔tSign s=true:=by
 induction s with
 | nil=>simp[Lib.indexAny,tSign]
 | cons b s ih=>
  unfold Lib.indexAny tSign;rw[sgn_contains,List.any_cons]
  cases hb:(b==43 || b==35)with
  | true=>simp
  | false=>
   simp only[Bool.false_eq_true,if_false,Bool.false_or];have hg:=Lib.indexAny_ge [43,35] s;unfold tSign at ih;rw[←ih]
   split
   ·rename_i h
    have:=beq_iff_eq.1 h;omega
   ·rename_i h
    have:¬Lib.indexAny s [43,35]= -1:=fun e=>h (beq_iff_eq.2 e)
    omega
theorem zero256 (w:World):(zeroValue 175).run Tryz.prog w= .ok (.agg (Array.replicate 256 (.bool false))) w:=by kernel_rfl
/-- What IndexAny answers. -/
def AnyPost (w:World)(s:List UInt8)(e:Ending)(w' :World):Prop:=∃z:Int,e= .returned (.int .i64 z)∧(0≤z↔tSign s=true)∧Keeps w w' []
theorem idxAny_long (w:World)(s:List UInt8)(h8:8 < s.length)(hs:s.length≤60000):Calls Tryz.prog 156 #[.string ⟨s.toArray⟩,.string sgnS] w (AnyPost w s):=by
 refine(Tryz.strings_IndexAny_long zero256 ⟨s.toArray⟩ sgnS w (by decide) h8 (show s.length < 4294967281 by omega) (by decide) (fun j b hb=> ?_)).mono ?_
 ·have hb' : [43,35][j]? =some b:=hb
  rcases(show j=0∨j=1∨2≤j by omega)with rfl | rfl | hj
  ·simp at hb';rw[←hb'];decide
  ·simp at hb';rw[←hb'];decide
  ·rw[List.getElem?_eq_none (by simpa using hj)]at hb';cases hb'
 ·rintro e w' ⟨rfl,rfl⟩
  exact⟨_,rfl,indexAny_sign s,(Keeps.alloc _ _).then_alloc _⟩
/-- No sign ahead of a place. -/
def NoSgn (s:List UInt8)(i:Nat):Prop:=∀j b,j < i→s[j]? =some b→(b==43 || b==35)=false
theorem noSgn_all {s:List UInt8}(h:NoSgn s s.length):tSign s=false:=by
 unfold tSign;rw[List.any_eq_false];intro b hb;obtain⟨j,hj,e⟩:=List.getElem_of_mem hb;have:=h j b hj (by rw[List.getElem?_eq_getElem hj,e]);simp at this ⊢
 exact this
theorem shouldUse_any (w:World)(n:Int)(h:n≤8):Calls Tryz.prog 166 #[.int .i64 n] w fun e w' =>e= .returned (.bool false)∧w=w' :=by
 have hd:¬8 < n:=by omega
 clear h
 go_enter Tryz.func166,Tryz.ntmps166
 go_wp2
 go_ret;exact⟨rfl,rfl⟩
theorem Keeps.iterAt {w w' :World}(h:Keeps w w' [])(s:ByteArray)(p:Nat):Keeps w (w'.iterAt w.heap.size s p) []:=
 ⟨h.os,h.tape,h.output,by simpa [World.iterAt]using h.size,fun k hk hs=>by
  have:=h.block k hk hs;rw[←this];simp only[World.iterAt];rw[Array.getElem?_setIfInBounds_ne (by omega)]⟩
set_option maxRecDepth 100000 in
set_option maxHeartbeats 4000000 in
theorem idxAny_short (w:World)(s:List UInt8)(h8:s.length≤8):Calls Tryz.prog 156 #[.string ⟨s.toArray⟩,.string sgnS] w (AnyPost w s):=by
 obtain⟨S,hS⟩:∃S:ByteArray,(⟨s.toArray⟩:ByteArray)=S:=⟨_,rfl⟩;have hsz:S.size=s.length:=by rw[←hS];rfl
 have HS:=zh (And.intro hS hsz);rw[hS];clear hS hsz
 go_enter Tryz.func156,Tryz.ntmps156
 go_wp2_with fail
 refine(shouldUse_any w _ (by rw[HS.out.2];omega)).mono ?_;rintro e w' ⟨rfl,rfl⟩
 go_wp2_with fail
 go_loopg [9,10] S.size (fun g _ _ wx=>∃i:Nat,i+g=S.size∧Hid (wx.heap[w.heap.size]? =some (.stringIter S i)∧Keeps w wx []∧NoSgn s i))
 case atStart=>exact⟨0,by omega,zh ⟨World.iter_heap w S 0,Keeps.alloc _ _,fun j b hj=>absurd hj (Nat.not_lt_zero _)⟩⟩
 case round=>
  obtain⟨i,hig,HR⟩:=hrel
  cases gk with
  | zero=>
   obtain rfl:i=S.size:=by omega
   have hnx:=fun ty=>Lib.run_next_end_at (P:=Tryz.prog) wr w.heap.size S S.size ty HR.out.1 (by omega)
   go_wp2_with fail
   go_ret;have hn:tSign s=false:=noSgn_all (by rw[←HS.out.2];exact HR.out.2.2);exact⟨-1,rfl,by rw[hn];simp,HR.out.2.1⟩
  | succ g=>
   have hi:i < S.size:=by omega
   have hil:i < s.length:=by rw[←HS.out.2];exact hi
   obtain⟨b,hb⟩:∃b,s[i]=b:=⟨_,rfl⟩;have hSb:S[i]'hi=b:=by rw[str_get HS.out.1 hil hi,hb]
   by_cases hba:b.toNat < 128
   ·have hnx:=fun ty=>Lib.run_next_ascii_at (P:=Tryz.prog) wr w.heap.size S i ty HR.out.1 hi (by rw[hSb];exact hba)
    rw[hSb]at hnx;obtain⟨W1,hW1⟩:∃W1,wr.iterAt w.heap.size S (i+1)=W1:=⟨_,rfl⟩;rw[hW1]at hnx;have H1:=zh (show W1.heap[w.heap.size]? =some (.stringIter S (i+1))∧Keeps w W1 []from by
     rw[←hW1];exact⟨Lib.iterAt_heap wr w.heap.size S i (i+1) HR.out.1,HR.out.2.1.iterAt S (i+1)⟩)
    have hback:((b.toNat:Int)).toNat.toUInt8=b:=by simp
    have hcon:=Lib.contains_iff_indexByte [43,35] b;rw[sgn_contains]at hcon;have HB:=zh hb;clear hW1 hSb hb
    cases hin:(b==43 || b==35)with
    | false=>
     rw[hin]at hcon;have HN:=zh (show NoSgn s (i+1)from fun j y hj hy=>by
      rcases Nat.lt_or_ge j i with h | h
      ·exact HR.out.2.2 j y h hy
      ·obtain rfl:j=i:=by omega
       rw[List.getElem?_eq_getElem hil,HB.out]at hy;injection hy with hy
       rw[←hy];exact hin)
     have hlt:¬((0:Int)≤Lib.indexByte [43,35] b):=of_decide_eq_false hcon.symm;obtain⟨z,hz⟩:∃z,Lib.indexByte [43,35] b=z:=⟨_,rfl⟩;have HZ:=zh hz;rw[hz]at hlt;clear hcon hin hz
     go_wp2_with fail
     refine(Tryz.strings_IndexRune_ascii sgnS _ _ (by omega) (by omega)).mono ?_;rintro e w' ⟨rfl,rfl⟩;rw[hback,show(sgnS:ByteArray).data.toList= [43,35]from rfl,HZ.out]
     go_wp2_with fail
     go_roundg g
     case measure=>omega
     case rel=>exact⟨i+1,by omega,zh ⟨H1.out.1,H1.out.2,HN.out⟩⟩
    | true=>
     rw[hin]at hcon;have HN:=zh (show tSign s=true by
      unfold tSign;rw[List.any_eq_true];exact⟨b,by rw[←HB.out];exact List.getElem_mem hil,hin⟩)
     have hlt:(0:Int)≤Lib.indexByte [43,35] b:=of_decide_eq_true hcon.symm;obtain⟨z,hz⟩:∃z,Lib.indexByte [43,35] b=z:=⟨_,rfl⟩;have HZ:=zh hz;rw[hz]at hlt;clear hcon hin hz
     go_wp2_with fail
     refine(Tryz.strings_IndexRune_ascii sgnS _ _ (by omega) (by omega)).mono ?_;rintro e w' ⟨rfl,rfl⟩;rw[hback,show(sgnS:ByteArray).data.toList= [43,35]from rfl,HZ.out]
     go_wp2_with fail
     go_ret;exact⟨_,rfl,⟨fun _=>HN.out,fun _=>by omega⟩,H1.out.2⟩
   ·have hg:S.get! i=b:=by
     rw[←hSb];simp[ByteArray.get!,getElem!_pos,hi];rfl
    obtain⟨d1,d2,d3,d4,d5⟩:=decode_hi S i hi (by rw[hg];omega);have hnx:=fun ty=>Lib.run_next_any_at (P:=Tryz.prog) wr w.heap.size S i ty HR.out.1 hi
    obtain⟨c,hc⟩:∃c,(Utf8.decode S i).1=c:=⟨_,rfl⟩;obtain⟨k,hk⟩:∃k,(Utf8.decode S i).2=k:=⟨_,rfl⟩;rw[hc]at d1 d2 hnx;rw[hk]at d3 d4 d5 hnx;obtain⟨W1,hW1⟩:∃W1,wr.iterAt w.heap.size S (i+k)=W1:=⟨_,rfl⟩;rw[hW1]at hnx;have H1:=zh (show W1.heap[w.heap.size]? =some (.stringIter S (i+k))∧Keeps w W1 []from by
     rw[←hW1];exact⟨Lib.iterAt_heap wr w.heap.size S i (i+k) HR.out.1,HR.out.2.1.iterAt S (i+k)⟩)
    have HN:=zh (show NoSgn s (i+k)from fun j y hj hy=>by
     rcases Nat.lt_or_ge j i with h | h
     ·exact HR.out.2.2 j y h hy
     ·have h5:=d5 j h hj
      have hjS:j < S.size:=by omega
      have hjl:j < s.length:=by rw[←HS.out.2];exact hjS
      have e:S.get! j=s[j]:=by
       rw[←str_get HS.out.1 hjl hjS];simp[ByteArray.get!,getElem!_pos,hjS];rfl
      rw[List.getElem?_eq_getElem hjl]at hy;injection hy with hy
      rw[e,hy]at h5;have n1:(y==43)=false:=by
       rw[beq_eq_false_iff_ne];rintro rfl
       revert h5;decide
      have n2:(y==35)=false:=by
       rw[beq_eq_false_iff_ne];rintro rfl
       revert h5;decide
      rw[n1,n2];rfl)
    have HIK:=zh (And.intro d3 d4);clear hW1 hSb hb hg hc hk d5
    go_wp2_with fail
    refine(idxRune_hi _ (c:Int) (by omega) (by omega)).mono ?_;rintro e w' ⟨rfl,hk⟩;have H2:=zh hk;clear hk
    go_wp2_with fail
    go_roundg (S.size - (i+k))
    case measure=>have:=HIK.out;omega
    case rel=>exact⟨i+k,by have:=HIK.out;omega,zh ⟨(H2.out.block _ (Array.getElem?_eq_some_iff.1 H1.out.1).1 (by simp)).trans H1.out.1,H1.out.2.then_ H2.out,HN.out⟩⟩
theorem idxAny_any (w:World)(s:List UInt8)(hs:s.length≤60000):Calls Tryz.prog 156 #[.string ⟨s.toArray⟩,.string sgnS] w (AnyPost w s):=by
 by_cases h:s.length≤8
 ·exact idxAny_short w s h
 ·exact idxAny_long w s (by omega) hs
set_option maxRecDepth 100000 in
set_option maxHeartbeats 4000000 in
theorem cntAny_any (w:World)(s:List UInt8)(hs:s.length≤60000):Calls Tryz.prog 118 #[.string ⟨s.toArray⟩,.string sgnS] w fun e w' =>e= .returned (.bool (tSign s))∧Keeps w w' []:=by
 obtain⟨S,hS⟩:∃S:ByteArray,(⟨s.toArray⟩:ByteArray)=S:=⟨_,rfl⟩;have HS:=zh hS;rw[hS];clear hS
 go_enter Tryz.func118,Tryz.ntmps118
 go_wp2_with fail
 rw[←HS.out];refine(idxAny_any w s hs).mono ?_;rintro e w1 ⟨z,rfl,hz,hk⟩;have HK:=zh hk;clear hk
 by_cases h0:0≤z
 ·have HG:=zh (hz.1 h0)
  clear hz
  go_wp2_with fail
  go_ret;refine⟨?_,HK.out⟩;rw[HG.out];simp
 ·have HG:=zh (show tSign s=false by
   cases h:tSign s with
   | false=>rfl
   | true=>exact absurd (hz.2 h) h0)
  clear hz
  go_wp2_with fail
  go_ret;refine⟨?_,HK.out⟩;rw[HG.out];simp[h0]

theorem emp_iff (s:List UInt8){S:ByteArray}(hS:(⟨s.toArray⟩:ByteArray)=S):S.toList.isEmpty=decide (s.length=0):=by
 rw[←hS,Lib.toList_data]
 cases s <;> simp
set_option maxRecDepth 100000 in
set_option maxHeartbeats 4000000 in
theorem tSaid_any (w:World)(s:List UInt8)(hs:s.length≤60000):Calls Tryz.prog 119 #[.string ⟨s.toArray⟩] w fun e w' =>e= .returned (.bool (tSaid s))∧Keeps w w' []:=by
 obtain⟨S,hS⟩:∃S:ByteArray,(⟨s.toArray⟩:ByteArray)=S:=⟨_,rfl⟩;have hsz:S.size=s.length:=by rw[←hS];rfl
 have hem:=emp_iff s hS;have HS:=zh hS;rw[hS];clear hS
 by_cases h0:s.length=0
 ·have HT:=zh (show tSaid s=false by unfold tSaid;simp;omega)
  rw[decide_eq_true h0]at hem;clear h0
  go_enter Tryz.func119,Tryz.ntmps119
  go_wp2_with fail
  go_ret;exact⟨by rw[HT.out];rfl,Keeps.refl _ _⟩
 ·rw[decide_eq_false h0]at hem
  by_cases h2:s.length≤200
  ·have HT:=zh (show tSaid s=uGood s by unfold tSaid;simp[h2,show 1≤s.length by omega])
   have hL:(s.length:Int)≤200:=by omega
   clear h0 h2
   go_enter Tryz.func119,Tryz.ntmps119
   go_wp2_with fail
   rw[←HS.out];refine(uCheck_any w s hs).mono ?_;rintro e w1 ⟨rfl,hk⟩;rw[HS.out];have HK:=zh hk;clear hk
   cases hg:uGood s with
   | true=>
    have hc:uCode s=0:=by unfold uCode;rw[hg];rfl
    rw[hc];rw[hg]at HT;clear hg
    go_wp2_with fail
    go_ret;exact⟨by rw[HT.out];rfl,HK.out⟩
   | false=>
    have hc:uCode s=220:=by unfold uCode;rw[hg];rfl
    rw[hc];rw[hg]at HT;clear hg
    go_wp2_with fail
    go_ret;exact⟨by rw[HT.out];rfl,HK.out⟩
  ·have HT:=zh (show tSaid s=false by unfold tSaid;simp;omega)
   have hL:¬(s.length:Int)≤200:=by omega
   clear h0 h2
   go_enter Tryz.func119,Tryz.ntmps119
   go_wp2_with fail
   go_ret;exact⟨by rw[HT.out];rfl,Keeps.refl _ _⟩
set_option maxRecDepth 100000 in
set_option maxHeartbeats 4000000 in
theorem tName_any (w:World)(s:List UInt8)(hs:s.length≤60000):Calls Tryz.prog 126 #[.string ⟨s.toArray⟩] w fun e w' =>e= .returned (.bool (tName s))∧Keeps w w' []:=by
 obtain⟨S,hS⟩:∃S:ByteArray,(⟨s.toArray⟩:ByteArray)=S:=⟨_,rfl⟩;have HS:=zh hS;rw[hS];clear hS
 go_enter Tryz.func126,Tryz.ntmps126
 go_wp2_with fail
 rw[←HS.out];refine(tSaid_any w s hs).mono ?_;rintro e w1 ⟨rfl,hk⟩;rw[HS.out];have HK:=zh hk;clear hk
 cases hg:tSaid s with
 | false=>
  have HT:=zh (show tName s=false by unfold tName;rw[hg];rfl);clear hg
  go_wp2_with fail
  go_ret;exact⟨by rw[HT.out];rfl,HK.out⟩
 | true=>
  have HT:=zh (show tName s= !tSign s by unfold tName;rw[hg];rfl);clear hg
  go_wp2_with fail
  rw[←HS.out];refine(cntAny_any w1 s hs).mono ?_;rintro e w2 ⟨rfl,hk⟩;rw[HS.out];have HK2:=zh (HK.out.then_ hk);clear hk
  go_wp2_with fail
  go_ret;exact⟨by rw[HT.out];rfl,HK2.out⟩
/-- Texts in a block. -/
def txC (l:List (List UInt8)):Array Value:=(l.flatMap txtV).toArray
theorem split_row (s:List UInt8):((Lib.splitB ⟨#[47]⟩ 0 (Lib.countB ⟨s.toArray⟩ ⟨#[47]⟩) ⟨s.toArray⟩).map Value.string).toArray=txC (tLev s)∧Lib.countB ⟨s.toArray⟩ ⟨#[47]⟩+1=(tLev s).length:=by
 have h1:=Lib.splitB_data ⟨#[47]⟩ 0 (Lib.countB ⟨s.toArray⟩ ⟨#[47]⟩) ⟨s.toArray⟩;have h2:Lib.splitK (⟨#[47]⟩:ByteArray).data.toList 0 (Lib.countB ⟨s.toArray⟩ ⟨#[47]⟩) (⟨s.toArray⟩:ByteArray).data.toList=tLev s:=split_lev s;rw[h2]at h1;have h3:=Lib.splitB_all ⟨#[47]⟩ (by decide) 0 (Lib.countB ⟨s.toArray⟩ ⟨#[47]⟩) ⟨s.toArray⟩ rfl
 constructor
 ·unfold txC
  congr 1
  rw[←h1]
  generalize Lib.splitB ⟨#[47]⟩ 0 (Lib.countB ⟨s.toArray⟩ ⟨#[47]⟩) ⟨s.toArray⟩=L
  induction L with
  | nil=>rfl
  | cons a L ih=>rw[List.map_cons,List.map_cons,List.flatMap_cons,←ih];rfl
 ·rw[←h3,←h1,List.length_map]
set_option maxRecDepth 100000 in
theorem tLevels_any (w:World)(s:List UInt8)(hs:s.length≤60000)(hm:MaxL w):Calls Tryz.prog 117 #[.string ⟨s.toArray⟩] w fun e w' =>e= .returned (.slice (some ⟨w.heap.size,0,none⟩) (tLev s).length (tLev s).length)∧w' =w.alloc (.cells (txC (tLev s)) 9):=by
 obtain⟨m,hm⟩:=hm;obtain⟨S,hS⟩:∃S:ByteArray,(⟨s.toArray⟩:ByteArray)=S:=⟨_,rfl⟩;have HS:=zh hS;have HM:=zh hm;rw[hS];clear hS hm
 go_enter Tryz.func117,Tryz.ntmps117
 go_wp2_with fail
 rw[←HS.out];refine(Tryz.strings_Split ⟨s.toArray⟩ ⟨#[47]⟩ m w (show s.length < 4294967281 by omega) HM.out (by decide)).mono ?_;rintro e w1 ⟨rfl,rfl⟩;rw[(split_row s).1,(split_row s).2]
 go_wp2_with fail
 go_ret;exact⟨rfl,rfl⟩
end Go.Proofs.YtahbikfbjenfpaaGreatDoor
