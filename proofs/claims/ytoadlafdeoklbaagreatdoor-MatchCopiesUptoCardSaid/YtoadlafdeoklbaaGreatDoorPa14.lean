/- strings.IndexAny, strings.ContainsAny with the two signs of filters, of any text. Package topic: said, Name, Plain, Levels, starts, what a level meets. Package match: a tree of beginnings in memory; fresh, New, none, client. -/
import Derived.Test.YtoadlafdeoklbaaGreatDoorPa13
import Derived.Test.YtoadlafdeoklbaaGreatDoorPa3
import Derived.Lib.OthersKept
import Derived.Test.YtoadlafdeoklbaaGreatDoorPa7
import Derived.Test.YtoadlafdeoklbaaGreatDoorPa1
import Derived.Test.YtoadlafdeoklbaaGreatDoorPa5
import Derived.Test.YtoadlafdeoklbaaGreatDoorPa6

namespace Go.Proofs.YtoadlafdeoklbaaGreatDoor
open Go.RowKit Go.Shelf

theorem sgn_contains (b:UInt8): [43,35].contains b=(b==43 || b==35):=by
 simp[List.contains,List.elem]
 rcases Bool.eq_false_or_eq_true (b==43)with h | h <;> rcases Bool.eq_false_or_eq_true (b==35)with h' | h' <;> simp[h,h']
theorem indexAny_sign (s:List UInt8):0≤Lib.indexAny s [43,35]↔tSign s=true:=by
 induction s with
 | nil=>simp[Lib.indexAny,tSign]
 | cons b s ih=>
  unfold Lib.indexAny tSign;rw[sgn_contains,List.any_cons]
  cases hb:(b==43 || b==35)with
  | true=>simp
  | false=>
   simp only[Bool.false_eq_true,if_false,Bool.false_or];have hg:=Lib.indexAny_ge [43,35] s;unfold tSign at ih;rw[←ih]
   split
   ·rename_i h
    have:=beq_iff_eq.1 h;omega
   ·rename_i h
    have:¬Lib.indexAny s [43,35]= -1:=fun e=>h (beq_iff_eq.2 e)
    omega
theorem zero256 (w:World):(zeroValue 135).run Tryz.prog w= .ok (.agg (Array.replicate 256 (.bool false))) w:=by kernel_rfl
/-- What IndexAny answers. -/
def AnyPost (w:World)(s:List UInt8)(e:Ending)(w' :World):Prop:=∃z:Int,e= .returned (.int .i64 z)∧(0≤z↔tSign s=true)∧Keeps w w' []
theorem idxAny_long (w:World)(s:List UInt8)(h8:8 < s.length)(hs:s.length≤60000):Calls Tryz.prog 79 #[.string ⟨s.toArray⟩,.string sgnS] w (AnyPost w s):=by
 refine(Tryz.strings_IndexAny_long zero256 ⟨s.toArray⟩ sgnS w (by decide) h8 (show s.length < 4294967281 by omega) (by decide) (fun j b hb=> ?_)).mono ?_
 ·have hb' : [43,35][j]? =some b:=hb
  rcases(show j=0∨j=1∨2≤j by omega)with rfl | rfl | hj
  ·simp at hb';rw[←hb'];decide
  ·simp at hb';rw[←hb'];decide
  ·rw[List.getElem?_eq_none (by simpa using hj)]at hb';cases hb'
 ·rintro e w' ⟨rfl,rfl⟩
  exact⟨_,rfl,indexAny_sign s,(Keeps.alloc _ _).then_alloc _⟩
/-- No sign ahead of a place. -/
def NoSgn (s:List UInt8)(i:Nat):Prop:=∀j b,j < i→s[j]? =some b→(b==43 || b==35)=false
theorem noSgn_all {s:List UInt8}(h:NoSgn s s.length):tSign s=false:=by
 unfold tSign;rw[List.any_eq_false];intro b hb;obtain⟨j,hj,e⟩:=List.getElem_of_mem hb;have:=h j b hj (by rw[List.getElem?_eq_getElem hj,e]);simp at this ⊢
 exact this
theorem shouldUse_any (w:World)(n:Int)(h:n≤8):Calls Tryz.prog 96 #[.int .i64 n] w fun e w' =>e= .returned (.bool false)∧w=w' :=by
 have hd:¬8 < n:=by omega
 clear h
 go_enter Tryz.func96,Tryz.ntmps96
 go_wp2
 go_ret;exact⟨rfl,rfl⟩
theorem Keeps.iterAt {w w' :World}(h:Keeps w w' [])(s:ByteArray)(p:Nat):Keeps w (w'.iterAt w.heap.size s p) []:=
 ⟨h.os,h.tape,h.output,by simpa [World.iterAt]using h.size,fun k hk hs=>by
  have:=h.block k hk hs;rw[←this];simp only[World.iterAt];rw[Array.getElem?_setIfInBounds_ne (by omega)]⟩
set_option maxRecDepth 100000 in
set_option maxHeartbeats 4000000 in
theorem idxAny_short (w:World)(s:List UInt8)(h8:s.length≤8):Calls Tryz.prog 79 #[.string ⟨s.toArray⟩,.string sgnS] w (AnyPost w s):=by
 obtain⟨S,hS⟩:∃S:ByteArray,(⟨s.toArray⟩:ByteArray)=S:=⟨_,rfl⟩;have hsz:S.size=s.length:=by rw[←hS];rfl
 have HS:=zh (And.intro hS hsz);rw[hS];clear hS hsz
 go_enter Tryz.func79,Tryz.ntmps79
 go_wp2_with fail
 refine(shouldUse_any w _ (by rw[HS.out.2];omega)).mono ?_;rintro e w' ⟨rfl,rfl⟩
 go_wp2_with fail
 go_loopg [9,10] S.size (fun g _ _ wx=>∃i:Nat,i+g=S.size∧Hid (wx.heap[w.heap.size]? =some (.stringIter S i)∧Keeps w wx []∧NoSgn s i))
 case atStart=>exact⟨0,by omega,zh ⟨World.iter_heap w S 0,Keeps.alloc _ _,fun j b hj=>absurd hj (Nat.not_lt_zero _)⟩⟩
 case round=>
  obtain⟨i,hig,HR⟩:=hrel
  cases gk with
  | zero=>
   obtain rfl:i=S.size:=by omega
   have hnx:=fun ty=>Lib.run_next_end_at (P:=Tryz.prog) wr w.heap.size S S.size ty HR.out.1 (by omega)
   go_wp2_with fail
   go_ret;have hn:tSign s=false:=noSgn_all (by rw[←HS.out.2];exact HR.out.2.2);exact⟨-1,rfl,by rw[hn];simp,HR.out.2.1⟩
  | succ g=>
   have hi:i < S.size:=by omega
   have hil:i < s.length:=by rw[←HS.out.2];exact hi
   obtain⟨b,hb⟩:∃b,s[i]=b:=⟨_,rfl⟩;have hSb:S[i]'hi=b:=by rw[str_get HS.out.1 hil hi,hb]
   by_cases hba:b.toNat < 128
   ·have hnx:=fun ty=>Lib.run_next_ascii_at (P:=Tryz.prog) wr w.heap.size S i ty HR.out.1 hi (by rw[hSb];exact hba)
    rw[hSb]at hnx;obtain⟨W1,hW1⟩:∃W1,wr.iterAt w.heap.size S (i+1)=W1:=⟨_,rfl⟩;rw[hW1]at hnx;have H1:=zh (show W1.heap[w.heap.size]? =some (.stringIter S (i+1))∧Keeps w W1 []from by
     rw[←hW1];exact⟨Lib.iterAt_heap wr w.heap.size S i (i+1) HR.out.1,HR.out.2.1.iterAt S (i+1)⟩)
    have hback:((b.toNat:Int)).toNat.toUInt8=b:=by simp
    have hcon:=Lib.contains_iff_indexByte [43,35] b;rw[sgn_contains]at hcon;have HB:=zh hb;clear hW1 hSb hb
    cases hin:(b==43 || b==35)with
    | false=>
     rw[hin]at hcon;have HN:=zh (show NoSgn s (i+1)from fun j y hj hy=>by
      rcases Nat.lt_or_ge j i with h | h
      ·exact HR.out.2.2 j y h hy
      ·obtain rfl:j=i:=by omega
       rw[List.getElem?_eq_getElem hil,HB.out]at hy;injection hy with hy
       rw[←hy];exact hin)
     have hlt:¬((0:Int)≤Lib.indexByte [43,35] b):=of_decide_eq_false hcon.symm;obtain⟨z,hz⟩:∃z,Lib.indexByte [43,35] b=z:=⟨_,rfl⟩;have HZ:=zh hz;rw[hz]at hlt;clear hcon hin hz
     go_wp2_with fail
     refine(Tryz.strings_IndexRune_ascii sgnS _ _ (by omega) (by omega)).mono ?_;rintro e w' ⟨rfl,rfl⟩;rw[hback,show(sgnS:ByteArray).data.toList= [43,35]from rfl,HZ.out]
     go_wp2_with fail
     go_roundg g
     case measure=>omega
     case rel=>exact⟨i+1,by omega,zh ⟨H1.out.1,H1.out.2,HN.out⟩⟩
    | true=>
     rw[hin]at hcon;have HN:=zh (show tSign s=true by
      unfold tSign;rw[List.any_eq_true];exact⟨b,by rw[←HB.out];exact List.getElem_mem hil,hin⟩)
     have hlt:(0:Int)≤Lib.indexByte [43,35] b:=of_decide_eq_true hcon.symm;obtain⟨z,hz⟩:∃z,Lib.indexByte [43,35] b=z:=⟨_,rfl⟩;have HZ:=zh hz;rw[hz]at hlt;clear hcon hin hz
     go_wp2_with fail
     refine(Tryz.strings_IndexRune_ascii sgnS _ _ (by omega) (by omega)).mono ?_;rintro e w' ⟨rfl,rfl⟩;rw[hback,show(sgnS:ByteArray).data.toList= [43,35]from rfl,HZ.out]
     go_wp2_with fail
     go_ret;exact⟨_,rfl,⟨fun _=>HN.out,fun _=>by omega⟩,H1.out.2⟩
   ·have hg:S.get! i=b:=by
     rw[←hSb];simp[ByteArray.get!,getElem!_pos,hi];rfl
    obtain⟨d1,d2,d3,d4,d5⟩:=decode_hi S i hi (by rw[hg];omega);have hnx:=fun ty=>Lib.run_next_any_at (P:=Tryz.prog) wr w.heap.size S i ty HR.out.1 hi
    obtain⟨c,hc⟩:∃c,(Utf8.decode S i).1=c:=⟨_,rfl⟩;obtain⟨k,hk⟩:∃k,(Utf8.decode S i).2=k:=⟨_,rfl⟩;rw[hc]at d1 d2 hnx;rw[hk]at d3 d4 d5 hnx;obtain⟨W1,hW1⟩:∃W1,wr.iterAt w.heap.size S (i+k)=W1:=⟨_,rfl⟩;rw[hW1]at hnx;have H1:=zh (show W1.heap[w.heap.size]? =some (.stringIter S (i+k))∧Keeps w W1 []from by
     rw[←hW1];exact⟨Lib.iterAt_heap wr w.heap.size S i (i+k) HR.out.1,HR.out.2.1.iterAt S (i+k)⟩)
    have HN:=zh (show NoSgn s (i+k)from fun j y hj hy=>by
     rcases Nat.lt_or_ge j i with h | h
     ·exact HR.out.2.2 j y h hy
     ·have h5:=d5 j h hj
      have hjS:j < S.size:=by omega
      have hjl:j < s.length:=by rw[←HS.out.2];exact hjS
      have e:S.get! j=s[j]:=by
       rw[←str_get HS.out.1 hjl hjS];simp[ByteArray.get!,getElem!_pos,hjS];rfl
      rw[List.getElem?_eq_getElem hjl]at hy;injection hy with hy
      rw[e,hy]at h5;have n1:(y==43)=false:=by
       rw[beq_eq_false_iff_ne];rintro rfl
       revert h5;decide
      have n2:(y==35)=false:=by
       rw[beq_eq_false_iff_ne];rintro rfl
       revert h5;decide
      rw[n1,n2];rfl)
    have HIK:=zh (And.intro d3 d4);clear hW1 hSb hb hg hc hk d5
    go_wp2_with fail
    refine(idxRune_hi _ (c:Int) (by omega) (by omega)).mono ?_;rintro e w' ⟨rfl,hk⟩;have H2:=zh hk;clear hk
    go_wp2_with fail
    go_roundg (S.size - (i+k))
    case measure=>have:=HIK.out;omega
    case rel=>exact⟨i+k,by have:=HIK.out;omega,zh ⟨(H2.out.block _ (Array.getElem?_eq_some_iff.1 H1.out.1).1 (by simp)).trans H1.out.1,H1.out.2.then_ H2.out,HN.out⟩⟩
theorem idxAny_any (w:World)(s:List UInt8)(hs:s.length≤60000):Calls Tryz.prog 79 #[.string ⟨s.toArray⟩,.string sgnS] w (AnyPost w s):=by
 by_cases h:s.length≤8
 ·exact idxAny_short w s h
 ·exact idxAny_long w s (by omega) hs
set_option maxRecDepth 100000 in
set_option maxHeartbeats 4000000 in
theorem cntAny_any (w:World)(s:List UInt8)(hs:s.length≤60000):Calls Tryz.prog 64 #[.string ⟨s.toArray⟩,.string sgnS] w fun e w' =>e= .returned (.bool (tSign s))∧Keeps w w' []:=by
 obtain⟨S,hS⟩:∃S:ByteArray,(⟨s.toArray⟩:ByteArray)=S:=⟨_,rfl⟩;have HS:=zh hS;rw[hS];clear hS
 go_enter Tryz.func64,Tryz.ntmps64
 go_wp2_with fail
 rw[←HS.out];refine(idxAny_any w s hs).mono ?_;rintro e w1 ⟨z,rfl,hz,hk⟩;have HK:=zh hk;clear hk
 by_cases h0:0≤z
 ·have HG:=zh (hz.1 h0)
  clear hz
  go_wp2_with fail
  go_ret;refine⟨?_,HK.out⟩;rw[HG.out];simp
 ·have HG:=zh (show tSign s=false by
   cases h:tSign s with
   | false=>rfl
   | true=>exact absurd (hz.2 h) h0)
  clear hz
  go_wp2_with fail
  go_ret;refine⟨?_,HK.out⟩;rw[HG.out];simp[h0]

theorem emp_iff (s:List UInt8){S:ByteArray}(hS:(⟨s.toArray⟩:ByteArray)=S):S.toList.isEmpty=decide (s.length=0):=by
 rw[←hS,Lib.toList_data]
 cases s <;> simp
set_option maxRecDepth 100000 in
set_option maxHeartbeats 4000000 in
theorem tSaid_any (w:World)(s:List UInt8)(hs:s.length≤60000):Calls Tryz.prog 65 #[.string ⟨s.toArray⟩] w fun e w' =>e= .returned (.bool (tSaid s))∧Keeps w w' []:=by
 obtain⟨S,hS⟩:∃S:ByteArray,(⟨s.toArray⟩:ByteArray)=S:=⟨_,rfl⟩;have hsz:S.size=s.length:=by rw[←hS];rfl
 have hem:=emp_iff s hS;have HS:=zh hS;rw[hS];clear hS
 by_cases h0:s.length=0
 ·have HT:=zh (show tSaid s=false by unfold tSaid;simp;omega)
  rw[decide_eq_true h0]at hem;clear h0
  go_enter Tryz.func65,Tryz.ntmps65
  go_wp2_with fail
  go_ret;exact⟨by rw[HT.out];rfl,Keeps.refl _ _⟩
 ·rw[decide_eq_false h0]at hem
  by_cases h2:s.length≤200
  ·have HT:=zh (show tSaid s=uGood s by unfold tSaid;simp[h2,show 1≤s.length by omega])
   have hL:(s.length:Int)≤200:=by omega
   clear h0 h2
   go_enter Tryz.func65,Tryz.ntmps65
   go_wp2_with fail
   rw[←HS.out];refine(uCheck_any w s hs).mono ?_;rintro e w1 ⟨rfl,hk⟩;rw[HS.out];have HK:=zh hk;clear hk
   cases hg:uGood s with
   | true=>
    have hc:uCode s=0:=by unfold uCode;rw[hg];rfl
    rw[hc];rw[hg]at HT;clear hg
    go_wp2_with fail
    go_ret;exact⟨by rw[HT.out];rfl,HK.out⟩
   | false=>
    have hc:uCode s=220:=by unfold uCode;rw[hg];rfl
    rw[hc];rw[hg]at HT;clear hg
    go_wp2_with fail
    go_ret;exact⟨by rw[HT.out];rfl,HK.out⟩
  ·have HT:=zh (show tSaid s=false by unfold tSaid;simp;omega)
   have hL:¬(s.length:Int)≤200:=by omega
   clear h0 h2
   go_enter Tryz.func65,Tryz.ntmps65
   go_wp2_with fail
   go_ret;exact⟨by rw[HT.out];rfl,Keeps.refl _ _⟩
set_option maxRecDepth 100000 in
set_option maxHeartbeats 4000000 in
theorem tName_any (w:World)(s:List UInt8)(hs:s.length≤60000):Calls Tryz.prog 38 #[.string ⟨s.toArray⟩] w fun e w' =>e= .returned (.bool (tName s))∧Keeps w w' []:=by
 obtain⟨S,hS⟩:∃S:ByteArray,(⟨s.toArray⟩:ByteArray)=S:=⟨_,rfl⟩;have HS:=zh hS;rw[hS];clear hS
 go_enter Tryz.func38,Tryz.ntmps38
 go_wp2_with fail
 rw[←HS.out];refine(tSaid_any w s hs).mono ?_;rintro e w1 ⟨rfl,hk⟩;rw[HS.out];have HK:=zh hk;clear hk
 cases hg:tSaid s with
 | false=>
  have HT:=zh (show tName s=false by unfold tName;rw[hg];rfl);clear hg
  go_wp2_with fail
  go_ret;exact⟨by rw[HT.out];rfl,HK.out⟩
 | true=>
  have HT:=zh (show tName s= !tSign s by unfold tName;rw[hg];rfl);clear hg
  go_wp2_with fail
  rw[←HS.out];refine(cntAny_any w1 s hs).mono ?_;rintro e w2 ⟨rfl,hk⟩;rw[HS.out];have HK2:=zh (HK.out.then_ hk);clear hk
  go_wp2_with fail
  go_ret;exact⟨by rw[HT.out];rfl,HK2.out⟩
/-- Texts in a block. -/
def txC (l:List (List UInt8)):Array Value:=(l.flatMap txtV).toArray
theorem split_row (s:List UInt8):((Lib.splitB ⟨#[47]⟩ 0 (Lib.countB ⟨s.toArray⟩ ⟨#[47]⟩) ⟨s.toArray⟩).map Value.string).toArray=txC (tLev s)∧Lib.countB ⟨s.toArray⟩ ⟨#[47]⟩+1=(tLev s).length:=by
 have h1:=Lib.splitB_data ⟨#[47]⟩ 0 (Lib.countB ⟨s.toArray⟩ ⟨#[47]⟩) ⟨s.toArray⟩;have h2:Lib.splitK (⟨#[47]⟩:ByteArray).data.toList 0 (Lib.countB ⟨s.toArray⟩ ⟨#[47]⟩) (⟨s.toArray⟩:ByteArray).data.toList=tLev s:=split_lev s;rw[h2]at h1;have h3:=Lib.splitB_all ⟨#[47]⟩ (by decide) 0 (Lib.countB ⟨s.toArray⟩ ⟨#[47]⟩) ⟨s.toArray⟩ rfl
 constructor
 ·unfold txC
  congr 1
  rw[←h1]
  generalize Lib.splitB ⟨#[47]⟩ 0 (Lib.countB ⟨s.toArray⟩ ⟨#[47]⟩) ⟨s.toArray⟩=L
  induction L with
  | nil=>rfl
  | cons a L ih=>rw[List.map_cons,List.map_cons,List.flatMap_cons,←ih];rfl
 ·rw[←h3,←h1,List.length_map]
set_option maxRecDepth 100000 in
theorem tLevels_any (w:World)(s:List UInt8)(hs:s.length≤60000)(hm:MaxL w):Calls Tryz.prog 37 #[.string ⟨s.toArray⟩] w fun e w' =>e= .returned (.slice (some ⟨w.heap.size,0,none⟩) (tLev s).length (tLev s).length)∧w' =w.alloc (.cells (txC (tLev s)) 9):=by
 obtain⟨m,hm⟩:=hm;obtain⟨S,hS⟩:∃S:ByteArray,(⟨s.toArray⟩:ByteArray)=S:=⟨_,rfl⟩;have HS:=zh hS;have HM:=zh hm;rw[hS];clear hS hm
 go_enter Tryz.func37,Tryz.ntmps37
 go_wp2_with fail
 rw[←HS.out];refine(Tryz.strings_Split ⟨s.toArray⟩ ⟨#[47]⟩ m w (show s.length < 4294967281 by omega) HM.out (by decide)).mono ?_;rintro e w1 ⟨rfl,rfl⟩;rw[(split_row s).1,(split_row s).2]
 go_wp2_with fail
 go_ret;exact⟨rfl,rfl⟩
end Go.Proofs.YtoadlafdeoklbaaGreatDoor

namespace Go.Proofs.YtoadlafdeoklbaaGreatDoor
open Go.RowKit Go.Maps

abbrev Path:Type:=List (List UInt8)
theorem mtUndStr:Tryz.prog.underlying 9=some .string:=by kernel_rfl
theorem mtUndHere:Tryz.prog.underlying 72=some (.map 9 25):=by kernel_rfl
theorem mtUndKids:Tryz.prog.underlying 73=some (.map 9 62):=by kernel_rfl
/-- An entry as a value. -/
def sbC (x:Sb):List Value:= [.string ⟨x.f.toArray⟩,.string ⟨x.c.toArray⟩,.int .i64 x.q]
def sbV (x:Sb):Value:= .agg #[.string ⟨x.f.toArray⟩,.string ⟨x.c.toArray⟩,.int .i64 x.q]
def sbZ:Sb:=⟨[], [],0⟩
theorem encSb:Enc 3 sbC:=⟨by omega,fun _=>rfl,fun a u hu=>by
 simp only[sbC,List.mem_cons,List.not_mem_nil,or_false]at hu
 rcases hu with rfl | rfl | rfl <;> rfl⟩
theorem zeroSub:∀w,(zeroValue 25).run Tryz.prog w= .ok (sbV sbZ) w:=fun w=>by kernel_rfl
theorem zeroNd:∀w,(zeroValue 62).run Tryz.prog w= .ok (.pointer none) w:=fun w=>by kernel_rfl
abbrev ptr0 (b:Nat):Value:= .pointer (some ⟨b,0,none⟩)
/-- Where a node lies. -/
structure Nd where
 b:Nat
 h:Nat
 k:Nat
abbrev HereM (w:World)(b:Nat)(f:List UInt8→Option Sb):Prop:=SMap w Tryz.prog 9 b fun c=>(f c).map sbV
abbrev KidsM (w:World)(b:Nat)(f:List UInt8→Option Nat):Prop:=SMap w Tryz.prog 9 b fun x=>(f x).map ptr0
def ndRow (n:Nd):Array Value:= #[.map (some n.h),.map (some n.k)]
/-- A tree in memory: S tells which beginnings are there, E their entries, N where they lie. -/
structure TreeAt (W:World)(B:Nat)(S:List Path)(E:Path→List UInt8→Option Sb)(N:Path→Nd):Prop where
 root:([]:Path)∈S
 up:∀p x,p++ [x]∈S→p∈S
 row:∀p∈S,Row W (N p).b 75 (ndRow (N p))
 here:∀p∈S,HereM W (N p).h (E p)
 kids:∀p∈S,KidsM W (N p).k fun x=>if p++ [x]∈S then some (N (p++ [x])).b else none
 base:∀p∈S,B≤(N p).b∧B≤(N p).h∧B≤(N p).k
 hk:∀p∈S,∀q∈S,(N p).h≠(N q).k
 hh:∀p∈S,∀q∈S,(N p).h=(N q).h→p=q
 kk:∀p∈S,∀q∈S,(N p).k=(N q).k→p=q
 le:S.length≤2000000
 ek:∀p,∃l:List (List UInt8),(∀c,E p c≠none→c∈l)∧l.length≤100000
theorem smap_ne_row {P:Program}{k:TypeId}{W:World}{b g:Nat}{t:TypeId}{cs:Array Value}{f:List UInt8→Option Value}(h:SMap W P k b f)(hr:Row W g t cs):b≠g:=by
 rintro rfl;obtain⟨D,⟨es,clock,hb,_⟩,_⟩:=h;rw[hr]at hb
 cases hb
section
variable {W W' :World} {B:Nat} {S:List Path} {E:Path→List UInt8→Option Sb} {N:Path→Nd}
theorem TreeAt.keep {T:List Nat}(h:TreeAt W B S E N)(hk:Keeps W W' T)(hT:∀p∈S,(N p).b∉T∧(N p).h∉T∧(N p).k∉T):TreeAt W' B S E N:=
 ⟨h.root,h.up,fun p hp=>(h.row p hp).keep hk (hT p hp).1,fun p hp=>(h.here p hp).keep hk (hT p hp).2.1,fun p hp=>(h.kids p hp).keep hk (hT p hp).2.2,h.base,h.hk,h.hh,h.kk,h.le,h.ek⟩
theorem TreeAt.keeps (h:TreeAt W B S E N)(hk:Keeps W W' []):TreeAt W' B S E N:=h.keep hk fun _ _=>by simp
/-- A block of another kind of row turns. -/
theorem TreeAt.box {g:Nat}{t:TypeId}{cs:Array Value}(h:TreeAt W B S E N)(hk:Keeps W W' [g])(hr:Row W g t cs)(ht:t≠75):TreeAt W' B S E N:=h.keep hk fun p hp=>by
 refine⟨fun e=> ?_,fun e=> ?_,fun e=> ?_⟩
 ·obtain rfl:=List.mem_singleton.1 e
  exact(h.row p hp).ne_type hr (fun e=>ht e.symm) rfl
 ·exact smap_ne_row (h.here p hp) hr (List.mem_singleton.1 e)
 ·exact smap_ne_row (h.kids p hp) hr (List.mem_singleton.1 e)
/-- A kid is looked up. -/
theorem TreeAt.kid (h:TreeAt W B S E N){p:Path}(hp:p∈S){x:List UInt8}(hx:x.length≤100000):
  (Instr.lookup 73 (.map (some (N p).k)) (.string ⟨x.toArray⟩) false).run Tryz.prog W= .ok (.pointer (if p++ [x]∈S then some ⟨(N (p++ [x])).b,0,none⟩else none)) W:=by
 have h1:=(h.kids p hp).look mtUndStr mtUndKids (zeroNd W) (x:=x) (by simp[maxLen];omega) false;rw[if_neg (by decide)]at h1;refine h1.trans ?_
 by_cases h:p++ [x]∈S <;> simp[h]
theorem TreeAt.lt (h:TreeAt W B S E N){p:Path}(hp:p∈S):(N p).b < W.heap.size∧(N p).h < W.heap.size∧(N p).k < W.heap.size:=⟨(h.row p hp).lt,(h.here p hp).lt,(h.kids p hp).lt⟩
end
/-- A node that was made just now. -/
structure FreshNd (w w' :World)(n:Nd):Prop where
 row:Row w' n.b 75 (ndRow n)
 here:HereM w' n.h fun _=>none
 kids:KidsM w' n.k fun _=>none
 hb:w.heap.size≤n.b
 hh:w.heap.size≤n.h
 hk:w.heap.size≤n.k
 ne:n.h≠n.k
 k:Keeps w w' []
set_option maxRecDepth 100000 in
theorem mtFresh_any (w:World):Calls Tryz.prog 32 #[] w fun e w' =>∃n,e= .returned (ptr0 n.b)∧FreshNd w w' n:=by
 have hmm:= @run_makeMap Tryz.prog
 go_enter Tryz.func32,Tryz.ntmps32
 go_wp2_with fail
 go_ret;refine⟨⟨w.heap.size+2,w.heap.size,w.heap.size+1⟩,rfl, ?_, ?_, ?_,by simp,by simp,by simp,by simp, ?_⟩
 ·have:=Row.new ((w.alloc (.map #[] 0)).alloc (.map #[] 0)) 75 (ndRow ⟨w.heap.size+2,w.heap.size,w.heap.size+1⟩)
  rw[World.size_alloc,World.size_alloc]at this;exact this
 ·have:=SMap.made w Tryz.prog 9
  exact(this.keeps ((Keeps.alloc _ _).then_alloc _)).congr fun _=>rfl
 ·have:=SMap.made (w.alloc (.map #[] 0)) Tryz.prog 9
  rw[World.size_alloc]at this;exact(this.keeps (Keeps.alloc _ _)).congr fun _=>rfl
 ·exact((Keeps.alloc _ _).then_alloc _).then_alloc _
/-- A book in memory. -/
structure BookAt (W:World)(B d:Nat)(L:List Sb)(S:List Path)(N:Path→Nd):Prop where
 row:Row W d 64 #[ptr0 (N []).b,.int .i64 (L.length:Nat)]
 tree:TreeAt W B S (hereF L) N
 ok:MtOk L
 st:∀p,p∈S↔Stand L p
set_option maxRecDepth 100000 in
theorem mtNone_nil (w:World):Calls Tryz.prog 33 #[.pointer none] w fun e w' =>e= .returned (.bool true)∧w' =w:=by
 go_enter Tryz.func33,Tryz.ntmps33
 go_wp2
 go_ret;exact⟨rfl,rfl⟩
set_option maxRecDepth 100000 in
theorem mtNone_at (w:World)(d:Nat)(p:Option Addr)(v:Value)(hr:Row w d 64 #[.pointer p,v]):
  Calls Tryz.prog 33 #[.pointer (some ⟨d,0,none⟩)] w fun e w' =>e= .returned (.bool p.isNone)∧w' =w:=by
 have c0:=hr.cell 0;simp only[zga,zgz]at c0
 cases p with
 | none=>
  go_enter Tryz.func33,Tryz.ntmps33
  go_wp2
  go_ret;exact⟨rfl,rfl⟩
 | some a=>
  go_enter Tryz.func33,Tryz.ntmps33
  go_wp2
  go_ret;exact⟨rfl,rfl⟩
set_option maxRecDepth 100000 in
theorem mtClient_any (w:World)(s:List UInt8)(hs:s.length≤9223372036854775807):Calls Tryz.prog 35 #[.string ⟨s.toArray⟩] w fun e w' =>e= .returned (.bool (mtCl s))∧w' =w:=by
 obtain⟨S,hS⟩:∃S:ByteArray,(⟨s.toArray⟩:ByteArray)=S:=⟨_,rfl⟩;have hz:S.size=s.length:=by rw[←hS];simp[ByteArray.size]
 have he:S.toList.isEmpty=decide (s.length=0):=emp_iff s hS;rw[hS]
 by_cases h0:s.length=0
 ·have hm:mtCl s=false:=by unfold mtCl;rw[h0];rfl
  have he2:S.toList.isEmpty=true:=by rw[he,h0];rfl
  rw[hm];clear he hS h0 hm hs hz
  go_enter Tryz.func35,Tryz.ntmps35
  go_wp2
  go_ret;exact⟨rfl,rfl⟩
 ·have hm:mtCl s=decide ((S.size:Int)≤23):=by
   unfold mtCl;rw[decide_eq_true (by omega),Bool.true_and,hz];rw[Bool.eq_iff_iff];simp;omega
  have he2:S.toList.isEmpty=false:=by rw[he,decide_eq_false h0]
  rw[hm];clear he hS h0 hm hs hz
  go_enter Tryz.func35,Tryz.ntmps35
  go_wp2
  go_ret;exact⟨rfl,rfl⟩
end Go.Proofs.YtoadlafdeoklbaaGreatDoor
