/- strings.IndexRune at a rune that is no ASCII, of the two signs of filters. -/
import Derived.Test.YtoadlafdeoklbaaGreatDoorShelf
import Derived.Test.YtoadlafdeoklbaaGreatDoorPa12
import Derived.Laws.RangeAny
import Derived.Deep.LoopGhost
import Derived.Scope

namespace Go.Proofs.YtoadlafdeoklbaaGreatDoor
open Go.RowKit Go.Shelf

/-- The signs of filters. -/
abbrev sgnS:ByteArray:={data:= #[43,35]}
theorem decode_hi (s:ByteArray)(p:Nat)(h:p < s.size)(hb:128≤(s.get! p).toNat):
  128≤(Utf8.decode s p).1∧(Utf8.decode s p).1≤2097151∧p+(Utf8.decode s p).2≤s.size∧0 < (Utf8.decode s p).2∧∀j,p≤j→j < p+(Utf8.decode s p).2→128≤(s.get! j).toNat:=by
 have one:∀j,p≤j→j < p+1→128≤(s.get! j).toNat:=fun j h1 h2=>by
  obtain rfl:j=p:=by omega
  exact hb
 have err:∀c:Nat×Nat,c=(Utf8.runeError,1)→128≤c.1∧c.1≤2097151∧p+c.2≤s.size∧0 < c.2∧∀j,p≤j→j < p+c.2→128≤(s.get! j).toNat:=fun c hc=>by
  subst hc;exact⟨by decide,by decide,by show p+1≤_;omega,by decide,one⟩
 unfold Utf8.decode;simp only[Nat.add_zero];rw[if_neg (by omega)];have hb256:=(s.get! p).toNat_lt;have h1256:=(s.get! (p+1)).toNat_lt;have h2256:=(s.get! (p+2)).toNat_lt;have h3256:=(s.get! (p+3)).toNat_lt
 split
 ·rename_i hc
  simp only[Bool.and_eq_true,beq_iff_eq,decide_eq_true_eq]at hc
  split
  ·refine⟨by show 128≤_;omega,by show _≤2097151;omega,by show p+2≤_;omega,Nat.succ_pos _,fun j h1 h2=> ?_⟩
   rcases(show j=p∨j=p+1 by simp only at h2;omega)with rfl | rfl
   ·exact hb
   ·omega
  ·exact err _ rfl
 ·split
  ·rename_i hc
   simp only[Bool.and_eq_true,beq_iff_eq,decide_eq_true_eq]at hc
   split
   ·rename_i hv
    simp only[Bool.and_eq_true,decide_eq_true_eq]at hv;refine⟨by show 128≤_;omega,by show _≤2097151;omega,by show p+3≤_;omega,Nat.succ_pos _,fun j h1 h2=> ?_⟩
    rcases(show j=p∨j=p+1∨j=p+2 by simp only at h2;omega)with rfl | rfl | rfl
    ·exact hb
    ·omega
    ·omega
   ·exact err _ rfl
  ·split
   ·rename_i hc
    simp only[Bool.and_eq_true,beq_iff_eq,decide_eq_true_eq]at hc
    split
    ·rename_i hv
     simp only[Bool.and_eq_true,decide_eq_true_eq]at hv;refine⟨by show 128≤_;omega,by show _≤2097151;omega,by show p+4≤_;omega,Nat.succ_pos _,fun j h1 h2=> ?_⟩
     rcases(show j=p∨j=p+1∨j=p+2∨j=p+3 by simp only at h2;omega)with rfl | rfl | rfl | rfl
     ·exact hb
     ·omega
     ·omega
     ·omega
    ·exact err _ rfl
   ·exact err _ rfl
set_option maxRecDepth 100000 in
set_option maxHeartbeats 4000000 in
theorem validRune_any (w:World)(r:Int)(h:128≤r):Calls Tryz.prog 118 #[.int .i32 r] w fun e w' =>e= .returned (.bool (Utf8.valid r))∧w=w' :=by
 by_cases h1:r < 55296
 ·have HV:=zh (show Utf8.valid r=true by unfold Utf8.valid;simp;omega)
  go_enter Tryz.func118,Tryz.ntmps118
  go_wp2_with fail
  go_ret;exact⟨by rw[HV.out];rfl,rfl⟩
 ·by_cases h2:57343 < r
  ·by_cases h3:r≤1114111
   ·have HV:=zh (show Utf8.valid r=true by unfold Utf8.valid;simp;omega)
    go_enter Tryz.func118,Tryz.ntmps118
    go_wp2_with fail
    go_ret;exact⟨by rw[HV.out];rfl,rfl⟩
   ·have HV:=zh (show Utf8.valid r=false by unfold Utf8.valid;simp;omega)
    go_enter Tryz.func118,Tryz.ntmps118
    go_wp2_with fail
    go_ret;exact⟨by rw[HV.out];rfl,rfl⟩
  ·have HV:=zh (show Utf8.valid r=false by unfold Utf8.valid;simp;omega)
   go_enter Tryz.func118,Tryz.ntmps118
   go_wp2_with fail
   go_ret;exact⟨by rw[HV.out];rfl,rfl⟩
theorem encode_hi {r:Int}(h:128≤r):2≤(Utf8.encode r).size∧(Utf8.encode r).size≤4∧∀(j:Nat) (hj:j < (Utf8.encode r).size),128≤((Utf8.encode r)[j]'hj).toNat:=by
 have k:∀n:Nat,128≤n→n < 256→128≤(UInt8.ofNat n).toNat:=fun n h1 h2=>by
  rw[UInt8.toNat_ofNat'];omega
 obtain⟨c,hc,hc8,hcm⟩:∃c:Nat,(if Utf8.valid r then r.toNat else Utf8.runeError)=c∧128≤c∧c≤1114111:=by
  refine⟨_,rfl, ?_⟩
  split
  ·rename_i hv
   unfold Utf8.valid at hv;simp at hv;omega
  ·decide
 have e:Utf8.encode r=if c < 0x800 then⟨#[UInt8.ofNat (0xC0+c / 64),UInt8.ofNat (0x80+c % 64)]⟩
   else if c < 0x10000 then⟨#[UInt8.ofNat (0xE0+c / 4096),UInt8.ofNat (0x80+c / 64 % 64),UInt8.ofNat (0x80+c % 64)]⟩
   else⟨#[UInt8.ofNat (0xF0+c / 262144),UInt8.ofNat (0x80+c / 4096 % 64),UInt8.ofNat (0x80+c / 64 % 64),UInt8.ofNat (0x80+c % 64)]⟩:=by
  unfold Utf8.encode;simp only[hc];rw[if_neg (by omega)]
 rw[e];clear e hc
 split
 ·refine⟨by show 2≤2;omega,by show 2≤4;omega,fun j hj=> ?_⟩
  have hj' :j < 2:=hj
  rcases(show j=0∨j=1 by omega)with rfl | rfl
  ·exact k _ (by omega) (by omega)
  ·exact k _ (by omega) (by omega)
 ·split
  ·refine⟨by show 2≤3;omega,by show 3≤4;omega,fun j hj=> ?_⟩
   have hj' :j < 3:=hj
   rcases(show j=0∨j=1∨j=2 by omega)with rfl | rfl | rfl
   ·exact k _ (by omega) (by omega)
   ·exact k _ (by omega) (by omega)
   ·exact k _ (by omega) (by omega)
  ·refine⟨by show 2≤4;omega,by show 4≤4;omega,fun j hj=> ?_⟩
   have hj' :j < 4:=hj
   rcases(show j=0∨j=1∨j=2∨j=3 by omega)with rfl | rfl | rfl | rfl
   ·exact k _ (by omega) (by omega)
   ·exact k _ (by omega) (by omega)
   ·exact k _ (by omega) (by omega)
   ·exact k _ (by omega) (by omega)
set_option maxRecDepth 100000 in
set_option maxHeartbeats 4000000 in
theorem idxRune_hi (w:World)(r:Int)(h:128≤r)(hr:r≤2097151):Calls Tryz.prog 95 #[.string sgnS,.int .i32 r] w fun e w' =>e= .returned (.int .i64 (-1))∧Keeps w w' []:=by
 by_cases he:r=65533
 ·subst he
  go_enter Tryz.func95,Tryz.ntmps95
  go_wp2_with fail
  go_loopg [5,6] 2 (fun g _ _ wx=>∃i:Nat,i+g=2∧wx=w.iter sgnS i)
  case atStart=>exact⟨0,by omega,rfl⟩
  case round=>
   obtain⟨i,hig,rfl⟩:=hrel
   cases gk with
   | zero=>
    obtain rfl:i=2:=by omega
    have hnx:=run_next_end (P:=Tryz.prog) w sgnS 2
    go_wp2_with fail
    go_ret;exact⟨rfl,Keeps.alloc _ _⟩
   | succ g=>
    rcases(show i=0∨i=1 by omega)with rfl | rfl
    ·have hnx:=fun ty=>run_next_ascii (P:=Tryz.prog) w sgnS 0 ty (by decide) (by decide)
     go_wp2_with fail
     go_roundg g
     case measure=>omega
     case rel=>exact⟨1,by omega,rfl⟩
    ·have hnx:=fun ty=>run_next_ascii (P:=Tryz.prog) w sgnS 1 ty (by decide) (by decide)
     go_wp2_with fail
     go_roundg g
     case measure=>omega
     case rel=>exact⟨2,by omega,rfl⟩
 ·have hb:(r==65533)=false:=by simpa using he
  have h1:¬r < 128:=by omega
  cases hv:Utf8.valid r with
  | false=>
   have HV:=zh hv;clear hv he
   go_enter Tryz.func95,Tryz.ntmps95
   go_wp2_with fail
   refine(validRune_any w r h).mono ?_;rintro e w' ⟨rfl,rfl⟩;rw[HV.out]
   go_wp2_with fail
   go_ret;exact⟨rfl,Keeps.refl _ _⟩
  | true=>
   have HV:=zh hv;clear hv he
   go_enter Tryz.func95,Tryz.ntmps95
   go_wp2_with fail
   refine(validRune_any w r h).mono ?_;rintro e w' ⟨rfl,rfl⟩;rw[HV.out]
   go_wp2_with fail
   obtain⟨E,hE⟩:∃E,Utf8.encode r=E:=⟨_,rfl⟩;obtain⟨e1,e2,e3⟩:=encode_hi h;rw[hE]at e1 e2 e3;obtain⟨c,hc1,hc8⟩:∃c:UInt8,(∀h:1 < E.size,E[1]'h=c)∧128≤c.toNat:=⟨E[1]'(by omega),fun _=>rfl,e3 1 (by omega)⟩;clear e3;refine wp_scope_straight ?_
   rcases(show E.size=2∨E.size=3∨E.size=4 by omega)with hsz | hsz | hsz
   ·go_wp2_with fail
    go_loopw [9] (fun i wr=>i= .int .i64 1∧wr=w) (fun _ _=>0)
    case atStart=>exact⟨rfl,rfl⟩
    case round=>
     obtain⟨rfl,rfl⟩:=hrel;have hidx:∀h:1 < sgnS.size,sgnS[1]'h=35:=fun _=>rfl
     have hne:((35:Int)==(c.toNat:Int))=false:=by simp;omega
     have hw2:IntKind.i64.wrap 2=2:=IntWalk.i64_in _ (by omega);have hib:Lib.indexByte [] c= -1:=rfl
     go_wp2_with fail
     refine wp_scope_straight ?_
     go_wp2_with fail
     refine wp_region_keeps _ (by kernel_rfl) rfl (by kernel_rfl) ?_
     iterate 7
      refine ls ?_;simp only[addEnt]
     refine loose_nil (fun W vals hW hkn=> ?_);simp only[knowsAll]at hkn
     try simp only[and_true]at hkn
     simp only[fill,Act.put,zsa,zsc,zsz];clear hkn;have HW:=zh hW;clear hW
     go_wp2_with fail
     refine wp_region_keeps _ (by kernel_rfl) rfl (by kernel_rfl) ?_
     iterate 7
      refine ls ?_;simp only[addEnt]
     apply loose_is
     ·intro W vals hW hkn
      clear hkn;refine⟨?_⟩;simp only[fill];go_simp;refine looseUpon_calls ?_;exact(Tryz.strings_IndexByte _ _ _).mono (by rintro e w3 ⟨rfl,rfl⟩;exact⟨_,rfl,Keeps.refl _ _,rfl⟩)
     simp only[addEnt];refine ls ?_;simp only[addEnt];refine loose_nil (fun W vals hW hkn=> ?_);simp only[knowsAll]at hkn
     try simp only[and_true]at hkn
     simp only[fill,Act.put,zsa,zsc,zsz];clear hkn;have HW2:=zh (HW.out.then_ hW);clear hW
     go_wp2_with fail
     simp+zetaDelta only[Exit.noGoto,Exit.inBlock,Exit.then];go_ret;exact⟨rfl,HW2.out⟩
   ·go_wp2_with fail
    go_loopw [9] (fun i wr=>i= .int .i64 2∧wr=w) (fun _ _=>0)
    case atStart=>exact⟨rfl,rfl⟩
    case round=>
     obtain⟨rfl,rfl⟩:=hrel
     go_wp2_with fail
     simp+zetaDelta only[Exit.noGoto,Exit.inBlock];go_ret;exact⟨rfl,Keeps.refl _ _⟩
   ·go_wp2_with fail
    go_loopw [9] (fun i wr=>i= .int .i64 3∧wr=w) (fun _ _=>0)
    case atStart=>exact⟨rfl,rfl⟩
    case round=>
     obtain⟨rfl,rfl⟩:=hrel
     go_wp2_with fail
     simp+zetaDelta only[Exit.noGoto,Exit.inBlock];go_ret;exact⟨rfl,Keeps.refl _ _⟩
end Go.Proofs.YtoadlafdeoklbaaGreatDoor
