/- Texts as values. Package topic, plain: levels put together; within is told by what is met. Reference 13: signs. Reference 12: May. Reference 12: six. Reference 12: Raw. Reference 12: First. Reference 12: Runes. Reference 13: said, Name. Reference 13: Levels. Reference 13: Filter. -/
import Derived.Test.YtahbikfbjenfpaaGreatDoorPa11
import Derived.Test.YtahbikfbjenfpaaGreatDoorPa1
import Derived.Deep.DeepCutAuto
import Derived.Test.YtahbikfbjenfpaaGreatDoorPa2

namespace Go.Proofs.YtahbikfbjenfpaaGreatDoor
open Go.RowKit Go.Shelf

/-- Texts as values. -/
abbrev txL (l:List (List UInt8)):List Value:=l.map fun x=> .string ⟨x.toArray⟩
def lenOf (v:Value):Nat:=match v with
 | .slice _ n _=>n
 | _=>0
theorem txt_app (a b:List UInt8):(⟨a.toArray⟩:ByteArray)++⟨b.toArray⟩=⟨(a++b).toArray⟩:=by
 apply ByteArray.ext;simp
end Go.Proofs.YtahbikfbjenfpaaGreatDoor

namespace Go.Proofs.YtahbikfbjenfpaaGreatDoor
open Go

/-- Levels put together. -/
def tJoin:List (List UInt8)→List UInt8
 | []=> []
 | [x]=>x
 | x::y::l=>x++47::tJoin (y::l)
theorem tLev_app (s t:List UInt8):tLev (s++47::t)=tLev s++tLev t:=by
 induction s with
 | nil=>
  show tLev (47::t)= []::tLev t;rw[tLev,if_pos rfl]
 | cons a s ih=>
  by_cases h:a=47
  ·subst h
   rw[List.cons_append,tLev,if_pos rfl,ih,tLev,if_pos rfl];rfl
  ·obtain⟨l,ls,e1,e2⟩:=tLev_other (s:=s) h
   obtain⟨l',ls',e3,e4⟩:=tLev_other (s:=s++47::t) h;rw[ih,e1,List.cons_append]at e3;injection e3 with e5 e6
   rw[List.cons_append,e4,e2,←e5,←e6];rfl
theorem tLev_plain {s:List UInt8}(h:(47:UInt8)∉s):tLev s= [s]:=by
 induction s with
 | nil=>rfl
 | cons a s ih=>
  obtain⟨h1,h2⟩:(47:UInt8)≠a∧(47:UInt8)∉s:=by simpa using h
  obtain⟨l,ls,e1,e2⟩:=tLev_other (s:=s) (Ne.symm h1);rw[ih h2]at e1;injection e1 with e3 e4
  rw[e2,←e3,←e4]
/-- The first level. -/
def hd0 (l:List (List UInt8)):List UInt8:=l.headD []
def pre1 (c:UInt8)(s:List UInt8):Bool:=([c]:List UInt8).isPrefixOf s
end Go.Proofs.YtahbikfbjenfpaaGreatDoor

namespace Go.Proofs.YtahbikfbjenfpaaGreatDoor
open Go.RowKit Go.Shelf

def tSignN (s:List UInt8):Nat:=s.countP fun b=>b==43 || b==35
set_option maxRecDepth 100000 in
set_option maxHeartbeats 1000000 in
theorem rSigns_any (w:World)(s:List UInt8)(hs:s.length≤60000):
  Calls Tryz.prog 94 #[.string ⟨s.toArray⟩] w fun e w' =>e= .returned (.int .i64 (tSignN s:Nat))∧w=w' :=by
 obtain⟨S,hS⟩:∃S:ByteArray,(⟨s.toArray⟩:ByteArray)=S:=⟨_,rfl⟩;have hz:S.size=s.length:=by rw[←hS];simp[ByteArray.size]
 have HG:=zh (show∀k (h:k < s.length) (h2:k < S.size),S[k]=s[k]from fun k h h2=>by subst hS;rfl);rw[hS];clear hS
 go_enter Tryz.func94,Tryz.ntmps94
 go_wp2
 go_loop [3,4] (fun n i=>∃k:Nat,k≤s.length∧i= .int .i64 k∧n= .int .i64 (tSignN (s.take k):Nat)) (fun _ i=>s.length - (intOf i).toNat)
 case atStart=>exact⟨0,by omega,rfl,rfl⟩
 case round=>
  obtain⟨k,hk,rfl,rfl⟩:=hrel
  by_cases hlt:k < s.length
  ·have HS:=zh (List.take_succ_eq_append_getElem hlt)
   have ix:∀h,S[k]'h=s[k]:=fun h=>HG.out k hlt h
   obtain⟨m,hm⟩:∃m,tSignN (s.take k)=m:=⟨_,rfl⟩;have hmk:m≤k:=by rw[←hm];exact Nat.le_trans List.countP_le_length (by rw[List.length_take];omega)
   have HM:=zh hm;rw[hm];clear hm
   generalize s[k]=y at*
   have HN:=zh (show tSignN (s.take (k+1))=m+(if(y==43 || y==35)=true then 1 else 0)by rw[HS.out,tSignN,List.countP_append,←HM.out];simp[tSignN])
   by_cases h43:y=43
   ·subst h43
    have b1:(((43:UInt8).toNat:Int)==43)=true:=rfl
    go_wp2_with fail
    refine⟨⟨k+1,by omega,by go_num, ?_⟩,by simp[intOf];omega⟩;rw[HN.out]
    go_num
   ·have b1:((y.toNat:Int)==43)=false:=by
     rw[beq_eq_false_iff_ne];intro h;exact h43 (UInt8.toNat_inj.1 (by simpa using (show y.toNat=43 by omega)))
    by_cases h35:y=35
    ·subst h35
     have b2:(((35:UInt8).toNat:Int)==35)=true:=rfl
     go_wp2_with fail
     refine⟨⟨k+1,by omega,by go_num, ?_⟩,by simp[intOf];omega⟩;rw[HN.out]
     go_num
    ·have b2:((y.toNat:Int)==35)=false:=by
      rw[beq_eq_false_iff_ne];intro h;exact h35 (UInt8.toNat_inj.1 (by simpa using (show y.toNat=35 by omega)))
     have HN2:=zh (show(y==43 || y==35)=false by simp[h43,h35])
     go_wp2_with fail
     refine⟨⟨k+1,by omega,by go_num, ?_⟩,by simp[intOf];omega⟩;rw[HN.out,HN2.out];rfl
  ·obtain rfl:k=s.length:=by omega
   rw[List.take_length]
   go_wp2_with fail
   go_ret;exact⟨rfl,rfl⟩

def rMayB (r:Nat):Bool:=decide (r < 55296) || (decide (57343 < r) && decide (r≤1114111))
set_option maxRecDepth 100000 in
theorem rMay_any (w:World)(r:Nat):Calls Tryz.prog 170 #[.int .i32 r] w fun e w' =>e= .returned (.bool (rMayB r))∧w=w' :=by
 have h0:decide ((r:Int)≥0)=true:=by simp
 have h00:decide ((0:Int)≤r)=true:=by simp
 obtain⟨b1,e1⟩:∃b,decide (r < 55296)=b:=⟨_,rfl⟩;obtain⟨b2,e2⟩:∃b,decide (57343 < r)=b:=⟨_,rfl⟩;obtain⟨b3,e3⟩:∃b,decide (r≤1114111)=b:=⟨_,rfl⟩;have HR:=zh (show rMayB r=(b1 || (b2 && b3))by unfold rMayB;rw[e1,e2,e3]);have f1:decide ((r:Int) < 55296)=b1:=by rw[←e1];apply decide_eq_decide.2;omega
 have f2:decide ((57343:Int) < r)=b2:=by rw[←e2];apply decide_eq_decide.2;omega
 have f3:decide ((r:Int)≤1114111)=b3:=by rw[←e3];apply decide_eq_decide.2;omega
 clear e1 e2 e3
 go_enter Tryz.func170,Tryz.ntmps170
 cases b1 <;> cases b2 <;> cases b3
 all_goals go_wp2_with fail
 all_goals go_ret
 all_goals exact⟨by rw[HR.out];rfl,rfl⟩

set_option maxRecDepth 100000 in
theorem rSix_any (w:World)(r:Nat)(hr:r≤4294967295):Calls Tryz.prog 180 #[.int .i64 r] w fun e w' =>e= .returned (.int .u8 (128+r % 64:Nat))∧w=w' :=by
 have h1:(r:Int).tmod 64=((r % 64:Nat):Int):=by rw[Int.tmod_eq_emod_of_nonneg (by omega)];omega
 have hlt:r % 64 < 64:=Nat.mod_lt _ (by omega);obtain⟨m,hm⟩:∃m,r % 64=m:=⟨_,rfl⟩;rw[hm]at h1 hlt ⊢
 clear hm
 go_enter Tryz.func180,Tryz.ntmps180
 go_wp2
 go_ret;exact⟨by go_num,rfl⟩

theorem rConv (w:World)(l:List UInt8):(convert 32 9 (.slice (some ⟨w.heap.size,0,none⟩) l.length l.length)).run Tryz.prog (w.alloc (.cells (byC l) 5))= .ok (.string ⟨l.toArray⟩) (w.alloc (.cells (byC l) 5)):=
 conv_str _ _ _ _ l (lies_by (Row.new w 5 (byC l)))
set_option maxRecDepth 100000 in
set_option maxHeartbeats 2000000 in
theorem rRaw_any (w:World)(r:Nat)(hr:r≤1114111):Calls Tryz.prog 171 #[.int .i32 r] w fun e w' =>e= .returned (.string ⟨(uRaw r).toArray⟩)∧Keeps w w' []:=by
 by_cases h1:r < 128
 ·have d1:decide ((r:Int) < 128)=true:=by simp;omega
  have HU:=zh (show uRaw r= [u8 r]by unfold uRaw;rw[if_pos h1]);have cv:=rConv w [u8 r];rw[show byC [u8 r]= #[.int .u8 (r:Int)]by simp[byC,byteV,toNat_u8 (show r < 256 by omega)]]at cv
  generalize hS:(⟨[u8 r].toArray⟩:ByteArray)=S at cv
  have HS:=zh hS;clear hS;simp only[List.length_cons,List.length_nil,Nat.zero_add]at cv
  go_enter Tryz.func171,Tryz.ntmps171
  go_wp2_with fail
  go_ret;exact⟨by rw[HU.out,HS.out];rfl,Keeps.alloc _ _⟩
 ·have d1:decide ((r:Int) < 128)=false:=by simp;omega
  by_cases h2:r < 2048
  ·have d2:decide ((r:Int) < 2048)=true:=by simp;omega
   have q1:(r:Int).tdiv 64=((r / 64:Nat):Int):=by rw[Int.tdiv_eq_ediv_of_nonneg (by omega)];omega
   have HU:=zh (show uRaw r= [u8 (192+r / 64),u8 (128+r % 64)]by unfold uRaw;rw[if_neg h1,if_pos h2]);have cv:=rConv w [u8 (192+r / 64),u8 (128+r % 64)];rw[show byC [u8 (192+r / 64),u8 (128+r % 64)]= #[.int .u8 (192+(r:Int) / 64),.int .u8 (128+(r:Int) % 64)]by simp[byC,byteV,toNat_u8 (show 192+r / 64 < 256 by omega),toNat_u8 (show 128+r % 64 < 256 by omega)]]at cv
   generalize hS:(⟨[u8 (192+r / 64),u8 (128+r % 64)].toArray⟩:ByteArray)=S at cv
   have HS:=zh hS;clear hS;simp only[List.length_cons,List.length_nil,Nat.zero_add]at cv;have HX:=zh (rSix_any w r (by omega))
   go_enter Tryz.func171,Tryz.ntmps171
   go_wp2_with (go_at_call 180;refine HX.out.mono ?_;rintro e w1 ⟨rfl,rfl⟩)
   go_ret;exact⟨by rw[HU.out,HS.out];rfl,Keeps.alloc _ _⟩
  ·have d2:decide ((r:Int) < 2048)=false:=by simp;omega
   have hx0:=rSix_any w r (by omega);have hx1:=rSix_any w (r / 64) (by omega);have hx2:=rSix_any w (r / 4096) (by omega);simp only[Int.natCast_add,Int.natCast_emod,Int.natCast_ediv,Int.cast_ofNat_Int]at hx0 hx1 hx2;have HX:=zh (And.intro hx0 (And.intro hx1 hx2));clear hx0 hx1 hx2
   by_cases h3:r < 65536
   ·have d3:decide ((r:Int) < 65536)=true:=by simp;omega
    have HU:=zh (show uRaw r= [u8 (224+r / 4096),u8 (128+r / 64 % 64),u8 (128+r % 64)]by unfold uRaw;rw[if_neg h1,if_neg h2,if_pos h3]);have cv:=rConv w [u8 (224+r / 4096),u8 (128+r / 64 % 64),u8 (128+r % 64)];rw[show byC [u8 (224+r / 4096),u8 (128+r / 64 % 64),u8 (128+r % 64)]= #[.int .u8 (224+(r:Int) / 4096),.int .u8 (128+(r:Int) / 64 % 64),.int .u8 (128+(r:Int) % 64)]by simp[byC,byteV,toNat_u8 (show 224+r / 4096 < 256 by omega),toNat_u8 (show 128+r / 64 % 64 < 256 by omega),toNat_u8 (show 128+r % 64 < 256 by omega)]]at cv
    generalize hS:(⟨[u8 (224+r / 4096),u8 (128+r / 64 % 64),u8 (128+r % 64)].toArray⟩:ByteArray)=S at cv
    have HS:=zh hS;clear hS;simp only[List.length_cons,List.length_nil,Nat.zero_add]at cv
    go_enter Tryz.func171,Tryz.ntmps171
    go_wp2_with (go_at_call 180;first | (refine HX.out.1.mono ?_;rintro e w1 ⟨rfl,rfl⟩) | (refine HX.out.2.1.mono ?_;rintro e w1 ⟨rfl,rfl⟩))
    go_ret;exact⟨by rw[HU.out,HS.out];rfl,Keeps.alloc _ _⟩
   ·have d3:decide ((r:Int) < 65536)=false:=by simp;omega
    have HU:=zh (show uRaw r= [u8 (240+r / 262144),u8 (128+r / 4096 % 64),u8 (128+r / 64 % 64),u8 (128+r % 64)]by unfold uRaw;rw[if_neg h1,if_neg h2,if_neg h3]);have cv:=rConv w [u8 (240+r / 262144),u8 (128+r / 4096 % 64),u8 (128+r / 64 % 64),u8 (128+r % 64)];rw[show byC [u8 (240+r / 262144),u8 (128+r / 4096 % 64),u8 (128+r / 64 % 64),u8 (128+r % 64)]= #[.int .u8 (240+(r:Int) / 262144),.int .u8 (128+(r:Int) / 4096 % 64),.int .u8 (128+(r:Int) / 64 % 64),.int .u8 (128+(r:Int) % 64)]by simp[byC,byteV,toNat_u8 (show 240+r / 262144 < 256 by omega),toNat_u8 (show 128+r / 4096 % 64 < 256 by omega),toNat_u8 (show 128+r / 64 % 64 < 256 by omega),toNat_u8 (show 128+r % 64 < 256 by omega)]]at cv
    generalize hS:(⟨[u8 (240+r / 262144),u8 (128+r / 4096 % 64),u8 (128+r / 64 % 64),u8 (128+r % 64)].toArray⟩:ByteArray)=S at cv
    have HS:=zh hS;clear hS;simp only[List.length_cons,List.length_nil,Nat.zero_add]at cv
    go_enter Tryz.func171,Tryz.ntmps171
    go_wp2_with (go_at_call 180;first | (refine HX.out.1.mono ?_;rintro e w1 ⟨rfl,rfl⟩) | (refine HX.out.2.1.mono ?_;rintro e w1 ⟨rfl,rfl⟩) | (refine HX.out.2.2.mono ?_;rintro e w1 ⟨rfl,rfl⟩))
    go_ret;exact⟨by rw[HU.out,HS.out];rfl,Keeps.alloc _ _⟩

/-- No rune of fewer bytes. -/
structure FiAt (w wr:World)(s:List UInt8)(k:Nat):Prop where
 n:∀j,1≤j→j < k→¬(j≤s.length∧uHit (s.take j))
 k:Keeps w wr []
theorem FiAt.next {w wr w' :World}{s:List UInt8}{k:Nat}(h:FiAt w wr s k)(hn:¬uHit (s.take k))(hk:Keeps wr w' []):FiAt w w' s (k+1):=
 ⟨fun j h1 h2 h3=>by
  rcases Nat.lt_or_ge j k with g | g
  ·exact h.n j h1 g h3
  ·obtain rfl:j=k:=by omega
   exact hn h3.2,h.k.then_ hk⟩
theorem rLead_no {s:List UInt8}{a:UInt8}{t:List UInt8}{k:Nat}(hs:s=a::t)(hk:k≤s.length)(h0:1≤k)(h:¬(uLead k≤a.toNat∧a.toNat < uMost k)):¬uHit (s.take k):=by
 intro hh;obtain⟨a',t',e,g1,g2⟩:=uHit_lead hh;have hl:(s.take k).length=k:=by rw[List.length_take];omega
 rw[hl]at g1 g2;have:a' =a:=by
  rw[hs]at e;obtain⟨k,rfl⟩:∃k',k=k' +1:=⟨k - 1,by omega⟩;rw[zts]at e;injection e with e1 _
  exact e1.symm
 rw[this]at g1 g2;exact h ⟨g1,g2⟩
theorem rMore_step {s:List UInt8}{x y m:Nat}{c:UInt8}(h1:1≤m)(hm:m < s.length)(hc:s[m]=c)(hy:y=uMore x ((s.take m).drop 1)):64*y+c.toNat % 64=uMore x ((s.take (m+1)).drop 1):=by
 rw[List.take_succ_eq_append_getElem hm,hc,List.drop_append_of_le_length (by rw[List.length_take];omega)];unfold uMore;rw[List.foldl_append,←show y=((s.take m).drop 1).foldl (fun r x=>64*r+x.toNat % 64) x from hy];rfl
theorem rDec_more {s:List UInt8}{a:UInt8}{t:List UInt8}{k x:Nat}(hs:s=a::t)(hk:k≤s.length)(h1:1≤k)(hx:a.toNat - uLead k=x):uMore x ((s.take k).drop 1)=uDec (s.take k):=by
 have hl:(s.take k).length=k:=by rw[List.length_take];omega
 obtain⟨k,rfl⟩:∃k',k=k' +1:=⟨k - 1,by omega⟩;subst hs;rw[zts]at hl ⊢
 show uMore x (t.take k)=uMore (a.toNat - uLead (a::t.take k).length) (t.take k);rw[hl,hx]
def FiPost (w:World)(s:List UInt8)(e:Ending)(w' :World):Prop:=∃r:Nat,e= .returned (.tuple #[.int .i32 (r:Int),.int .i64 ((uFirst s:Nat):Int)])∧(uFirst s≠0→r=uDec (s.take (uFirst s)))∧Keeps w w' []
set_option maxRecDepth 100000 in
set_option maxHeartbeats 4000000 in
theorem rFirst_any (w:World)(s:List UInt8)(hs:s.length≤1000000):Calls Tryz.prog 162 #[.string ⟨s.toArray⟩] w (FiPost w s):=by
 obtain⟨S,hS⟩:∃S:ByteArray,(⟨s.toArray⟩:ByteArray)=S:=⟨_,rfl⟩;have hsz:S.size=s.length:=by rw[←hS];rfl
 have HS:=zh (And.intro hS hsz);rw[hS];clear hS
 go_enter Tryz.func162,Tryz.ntmps162
 go_wp2_with fail
 go_loopw [4] (fun i wr=>∃k:Nat,1≤k∧k≤5∧i= .int .i64 k∧Hid (FiAt w wr s k)) (fun i _=>5 - (intOf i).toNat)
 case atStart=>exact⟨1,by omega,by omega,rfl,zh ⟨fun j _ _=>by omega,Keeps.refl _ _⟩⟩
 case round=>
  obtain⟨k,hk1,hk5,rfl,HR⟩:=hrel;have hsl:=HS.out.2
  rcases(show k=1∨k=2∨k=3∨k=4∨k=5 by omega)with rfl | rfl | rfl | rfl | rfl
  ·skip
   by_cases hl:s.length < 1
   ·have hlb:decide ((1:Int)≤s.length)=false:=decide_eq_false (by omega)
    have HL:=zh hl;clear hl
    go_wp2_with fail
    go_ret2
    have hu:uFirst s=0:=uFirst_none (fun j h1 h2 h3=>by
     have:=HL.out
     rcases Nat.lt_or_ge j 1 with h | h
     ·exact HR.out.n j h1 h h3
     ·omega)
    exact⟨0,by rw[hu];rfl,fun h=>absurd hu h,HR.out.k⟩
   ·have hlb:decide ((1:Int)≤s.length)=true:=decide_eq_true (by omega)
    have hpos:0 < s.length:=by omega
    obtain⟨a,t,hat⟩:∃a t,s=a::t:=by
     cases s with
     | nil=>simp at hpos
     | cons a t=>exact⟨a,t,rfl⟩
    have HT:=zh (And.intro hat (show 1≤s.length by omega));have ha:∀h:0 < S.size,S[0]'h=a:=fun h=>by
     rw[str_get HS.out.1 hpos h];simp[hat]
    by_cases hr:0≤a.toNat∧a.toNat < 128
    ·obtain⟨hr1,hr2⟩:=hr
     have f1:decide ((a.toNat:Int) < 0)=false:=decide_eq_false (by omega);have f2:decide ((a.toNat:Int)≥128)=false:=decide_eq_false (by omega);have f3:decide ((128:Int)≤a.toNat)=false:=decide_eq_false (by omega);obtain⟨x,hx⟩:∃x,a.toNat - 0=x:=⟨_,rfl⟩;have hxi:((a.toNat:Int) - 0)=x:=by omega
     have HX:=zh hx;have hx255:x≤255:=by have:=a.toNat_lt;omega
     have HA:=zh (And.intro hr1 hr2);clear hat hl hx hr1 hr2
     go_wp2_with fail
     go_loopw [8,9] (fun r i W=>∃m y:Nat,1≤m∧m≤1∧i= .int .i64 m∧r= .int .i32 (y:Int)∧Hid (y=uMore x ((s.take m).drop 1)∧wr=W)) (fun _ i _=>1 - (intOf i).toNat)
     case atStart=>exact⟨1,x,by omega,by omega,rfl,by congr 1 <;> omega,zh ⟨by rw[HT.out.1];rfl,rfl⟩⟩
     case round=>
      obtain⟨m,y,hm1,hm,rfl,rfl,HM⟩:=hrel;obtain⟨hy,rfl⟩:=HM.out;have hlt2:=uMore_lt x ((s.take m).drop 1);rw[←hy,List.length_drop,List.length_take]at hlt2
      by_cases hmk:m < 1
      ·skip
       exfalso
       omega
      ·obtain rfl:m=1:=by omega
       have HY:=zh (show y=uDec (s.take 1)by
        rw[hy];exact rDec_more HT.out.1 HT.out.2 (by omega) HX.out)
       have hyl:y≤2147483647:=by
        refine Nat.le_trans (Nat.le_of_lt hlt2) ?_;refine Nat.le_trans (Nat.mul_le_mul (show x+1≤256 by omega) (Nat.pow_le_pow_right (by omega) (show min 1 s.length - 1≤3 by omega))) ?_;omega
       clear hlt2 hy HM;have HIT:=zh (show(uMay y∧uRaw y=s.take 1)↔uHit (s.take 1)by rw[HY.out];exact uHit_iff.symm);have hks:(1:Int)≤s.length:=by have:=HT.out.2;omega
       go_wp2_with fail
       by_cases hy0:y=0
       ·have HN:=zh (show¬uHit (s.take 1)from fun h=>by have:=(HIT.out.2 h).1.1;omega)
        subst hy0;refine wp_region_keeps _ (by kernel_rfl) rfl (by kernel_rfl) ?_
        iterate 3
         refine ls ?_;simp only[addEnt]
        iterate 2
         refine lo ?_;simp only[addEnt]
        iterate 2
         refine ls ?_;simp only[addEnt]
        iterate 6
         refine lo ?_;simp only[addEnt]
        refine ls ?_;simp only[addEnt];refine loose_nil (fun W vals hW hkn=> ?_);simp only[knowsAll]at hkn
        try simp only[and_true]at hkn
        simp only[fill,Act.put,zsa,zsc,zsz];clear hkn;have HZ:=zh hW;clear hW
        go_wp2_with fail
        exact⟨⟨1+1,by omega,by omega,by go_num,zh (HR.out.next HN.out HZ.out)⟩,by simp[intOf]⟩
       ·have hyp:0 < y:=by omega
        by_cases hm:uMay y
        ·have HM0:=zh hm
         have hmb:rMayB y=true:=by
          unfold rMayB;have:=hm.2;simp only[Bool.or_eq_true,Bool.and_eq_true,decide_eq_true_eq];exact this
         obtain⟨S2,hS2⟩:∃S2:ByteArray,(⟨(uRaw y).toArray⟩:ByteArray)=S2:=⟨_,rfl⟩;obtain⟨S3,hS3⟩:∃S3,S.extract 0 1=S3:=⟨_,rfl⟩;have e2:S2.toList=uRaw y:=by rw[←hS2,Lib.toList_data]
         have e3:S3.toList=s.take 1:=by rw[←hS3,←HS.out.1,str_cut,Lib.toList_data];simp
         obtain⟨fb,hfb⟩:∃fb:Bool,fb=decide (uRaw y=s.take 1):=⟨_,rfl⟩;have hcmp:(S2.toList==S3.toList)=fb:=by
          rw[e2,e3,hfb,Bool.eq_iff_iff];simp
         have HF:=zh hfb;have HS2:=zh hS2;have HMB:=zh hmb;clear hm e2 e3 hfb hS2 hmb;refine wp_region_keeps _ (by kernel_rfl) rfl (by kernel_rfl) ?_
         iterate 4
          refine ls ?_;simp only[addEnt]
         apply loose_is
         ·intro W vals hW hkn
          clear hkn;refine⟨?_⟩;simp only[fill];go_simp;refine looseUpon_calls ?_;exact(rMay_any W y).mono (by rintro e w3 ⟨rfl,rfl⟩;exact⟨_,rfl,Keeps.refl _ _,(by rw[HMB.out])⟩)
         iterate 3
          simp only[addEnt];refine ls ?_
         simp only[addEnt];apply loose_is
         ·intro W vals hW hkn
          clear hkn;refine⟨?_⟩;simp only[fill];go_simp;refine looseUpon_calls ?_;exact(rRaw_any W y (by have:=HM0.out.2;omega)).mono (by rintro e w3 ⟨rfl,hk⟩;exact⟨_,rfl,hk,(by rw[HS2.out])⟩)
         iterate 5
          simp only[addEnt];refine ls ?_
         simp only[addEnt];refine loose_nil (fun W vals hW hkn=> ?_);simp only[knowsAll]at hkn
         try simp only[and_true]at hkn
         simp only[fill,Act.put,zsa,zsc,zsz];clear hkn;have HZ:=zh hW;clear hW
         cases fb with
         | true=>
          go_wp2_with fail
          go_ret2
          have hu:uFirst s=1:=uFirst_hit (by omega) (by omega) (fun j h1 h2=>HR.out.n j h1 h2) ⟨HT.out.2,HIT.out.1 ⟨HM0.out,of_decide_eq_true HF.out.symm⟩⟩;exact⟨y,by rw[hu];rfl,fun _=>by rw[hu];exact HY.out,HR.out.k.then_ HZ.out⟩
         | false=>
          have HN:=zh (show¬uHit (s.take 1)from fun h=>by
           have e:=(HIT.out.2 h).2;have f:=HF.out;rw[decide_eq_true e]at f
           cases f)
          go_wp2_with fail
          exact⟨⟨1+1,by omega,by omega,by go_num,zh (HR.out.next HN.out HZ.out)⟩,by simp[intOf]⟩
        ·have HN:=zh (show¬uHit (s.take 1)from fun h=>hm (HIT.out.2 h).1)
         have hmb:rMayB y=false:=by
          rw[←Bool.not_eq_true];unfold rMayB;simp only[Bool.or_eq_true,Bool.and_eq_true,decide_eq_true_eq];exact fun h=>hm ⟨by omega,h⟩
         have HMB:=zh hmb;clear hm hmb;refine wp_region_keeps _ (by kernel_rfl) rfl (by kernel_rfl) ?_
         iterate 4
          refine ls ?_;simp only[addEnt]
         apply loose_is
         ·intro W vals hW hkn
          clear hkn;refine⟨?_⟩;simp only[fill];go_simp;refine looseUpon_calls ?_;exact(rMay_any W y).mono (by rintro e w3 ⟨rfl,rfl⟩;exact⟨_,rfl,Keeps.refl _ _,(by rw[HMB.out])⟩)
         iterate 2
          simp only[addEnt];refine ls ?_
         iterate 6
          simp only[addEnt];refine lo ?_
         simp only[addEnt];refine ls ?_;simp only[addEnt];refine loose_nil (fun W vals hW hkn=> ?_);simp only[knowsAll]at hkn
         try simp only[and_true]at hkn
         simp only[fill,Act.put,zsa,zsc,zsz];clear hkn;have HZ:=zh hW;clear hW
         go_wp2_with fail
         exact⟨⟨1+1,by omega,by omega,by go_num,zh (HR.out.next HN.out HZ.out)⟩,by simp[intOf]⟩
    ·have HN:=zh (rLead_no HT.out.1 HT.out.2 (by omega) (show¬(uLead 1≤a.toNat∧a.toNat < uMost 1)from hr))
     have hat2:=a.toNat_lt;have hbb:(decide ((a.toNat:Int) < 0) || decide ((a.toNat:Int)≥128))=true:=by simp;omega
     clear hat hl hr
     go_wp2_with fail
     all_goals exact⟨⟨1+1,by omega,by omega,by go_num,zh (HR.out.next HN.out (Keeps.refl _ _))⟩,by simp[intOf]⟩
  ·skip
   by_cases hl:s.length < 2
   ·have hlb:decide ((2:Int)≤s.length)=false:=decide_eq_false (by omega)
    have HL:=zh hl;clear hl
    go_wp2_with fail
    go_ret2
    have hu:uFirst s=0:=uFirst_none (fun j h1 h2 h3=>by
     have:=HL.out
     rcases Nat.lt_or_ge j 2 with h | h
     ·exact HR.out.n j h1 h h3
     ·omega)
    exact⟨0,by rw[hu];rfl,fun h=>absurd hu h,HR.out.k⟩
   ·have hlb:decide ((2:Int)≤s.length)=true:=decide_eq_true (by omega)
    have hpos:0 < s.length:=by omega
    obtain⟨a,t,hat⟩:∃a t,s=a::t:=by
     cases s with
     | nil=>simp at hpos
     | cons a t=>exact⟨a,t,rfl⟩
    have HT:=zh (And.intro hat (show 2≤s.length by omega));have ha:∀h:0 < S.size,S[0]'h=a:=fun h=>by
     rw[str_get HS.out.1 hpos h];simp[hat]
    by_cases hr:192≤a.toNat∧a.toNat < 224
    ·obtain⟨hr1,hr2⟩:=hr
     have f1:decide ((a.toNat:Int) < 192)=false:=decide_eq_false (by omega);have f2:decide ((a.toNat:Int)≥224)=false:=decide_eq_false (by omega);have f3:decide ((224:Int)≤a.toNat)=false:=decide_eq_false (by omega);obtain⟨x,hx⟩:∃x,a.toNat - 192=x:=⟨_,rfl⟩;have hxi:((a.toNat:Int) - 192)=x:=by omega
     have HX:=zh hx;have hx255:x≤255:=by have:=a.toNat_lt;omega
     have HA:=zh (And.intro hr1 hr2);clear hat hl hx hr1 hr2
     go_wp2_with fail
     go_loopw [8,9] (fun r i W=>∃m y:Nat,1≤m∧m≤2∧i= .int .i64 m∧r= .int .i32 (y:Int)∧Hid (y=uMore x ((s.take m).drop 1)∧wr=W)) (fun _ i _=>2 - (intOf i).toNat)
     case atStart=>exact⟨1,x,by omega,by omega,rfl,by congr 1 <;> omega,zh ⟨by rw[HT.out.1];rfl,rfl⟩⟩
     case round=>
      obtain⟨m,y,hm1,hm,rfl,rfl,HM⟩:=hrel;obtain⟨hy,rfl⟩:=HM.out;have hlt2:=uMore_lt x ((s.take m).drop 1);rw[←hy,List.length_drop,List.length_take]at hlt2
      by_cases hmk:m < 2
      ·skip
       have hmk' :decide ((m:Int) < 2)=true:=decide_eq_true (by omega);have hms:m < s.length:=by have:=HT.out.2;omega
       have hyl:y < 33554432:=by
        refine Nat.lt_of_lt_of_le hlt2 ?_;refine Nat.le_trans (Nat.mul_le_mul (show x+1≤256 by omega) (Nat.pow_le_pow_right (by omega) (show min m s.length - 1≤2 by omega))) ?_;omega
       obtain⟨c,hc⟩:∃c,s[m]=c:=⟨_,rfl⟩;have ix:∀h:m < S.size,S[m]'h=c:=fun h=>by rw[str_get HS.out.1 hms h,hc]
       have HNX:=zh (rMore_step (x:=x) hm1 hms hc hy);obtain⟨d,hd⟩:∃d,c.toNat % 64=d:=⟨_,rfl⟩;have hd64:d < 64:=by omega
       have ht:(c.toNat:Int).tmod 64=(d:Int):=by rw[Int.tmod_eq_emod_of_nonneg (by omega)];omega
       rw[hd]at HNX;have hsz2:(m:Int) < s.length:=by omega
       have hyd:=zh (show Value.int .i32 (RowKit.wrap32 (64*(y:Int)+RowKit.wrap32 ((RowKit.wrap64 (c.toNat:Int)).tmod 64)))=Value.int .i32 ((64*y+d:Nat):Int)by
        rw[show RowKit.wrap64 (c.toNat:Int)=c.toNat by unfold RowKit.wrap64;have:=c.toNat_lt;omega,ht,show RowKit.wrap32 (d:Int)=d by unfold RowKit.wrap32;omega,show RowKit.wrap32 (64*(y:Int)+d)=64*y+d by unfold RowKit.wrap32;omega]
        congr 1)
       clear hlt2 hc hd hy HM ht
       go_wp2_with fail
       all_goals exact⟨⟨m+1,64*y+d,by omega,by omega,by go_num,hyd.out,zh ⟨HNX.out,trivial⟩⟩,by simp[intOf];omega⟩
      ·obtain rfl:m=2:=by omega
       have HY:=zh (show y=uDec (s.take 2)by
        rw[hy];exact rDec_more HT.out.1 HT.out.2 (by omega) HX.out)
       have hyl:y≤2147483647:=by
        refine Nat.le_trans (Nat.le_of_lt hlt2) ?_;refine Nat.le_trans (Nat.mul_le_mul (show x+1≤256 by omega) (Nat.pow_le_pow_right (by omega) (show min 2 s.length - 1≤3 by omega))) ?_;omega
       clear hlt2 hy HM;have HIT:=zh (show(uMay y∧uRaw y=s.take 2)↔uHit (s.take 2)by rw[HY.out];exact uHit_iff.symm);have hks:(2:Int)≤s.length:=by have:=HT.out.2;omega
       go_wp2_with fail
       by_cases hy0:y=0
       ·have HN:=zh (show¬uHit (s.take 2)from fun h=>by have:=(HIT.out.2 h).1.1;omega)
        subst hy0;refine wp_region_keeps _ (by kernel_rfl) rfl (by kernel_rfl) ?_
        iterate 3
         refine ls ?_;simp only[addEnt]
        iterate 2
         refine lo ?_;simp only[addEnt]
        iterate 2
         refine ls ?_;simp only[addEnt]
        iterate 6
         refine lo ?_;simp only[addEnt]
        refine ls ?_;simp only[addEnt];refine loose_nil (fun W vals hW hkn=> ?_);simp only[knowsAll]at hkn
        try simp only[and_true]at hkn
        simp only[fill,Act.put,zsa,zsc,zsz];clear hkn;have HZ:=zh hW;clear hW
        go_wp2_with fail
        exact⟨⟨2+1,by omega,by omega,by go_num,zh (HR.out.next HN.out HZ.out)⟩,by simp[intOf]⟩
       ·have hyp:0 < y:=by omega
        by_cases hm:uMay y
        ·have HM0:=zh hm
         have hmb:rMayB y=true:=by
          unfold rMayB;have:=hm.2;simp only[Bool.or_eq_true,Bool.and_eq_true,decide_eq_true_eq];exact this
         obtain⟨S2,hS2⟩:∃S2:ByteArray,(⟨(uRaw y).toArray⟩:ByteArray)=S2:=⟨_,rfl⟩;obtain⟨S3,hS3⟩:∃S3,S.extract 0 2=S3:=⟨_,rfl⟩;have e2:S2.toList=uRaw y:=by rw[←hS2,Lib.toList_data]
         have e3:S3.toList=s.take 2:=by rw[←hS3,←HS.out.1,str_cut,Lib.toList_data];simp
         obtain⟨fb,hfb⟩:∃fb:Bool,fb=decide (uRaw y=s.take 2):=⟨_,rfl⟩;have hcmp:(S2.toList==S3.toList)=fb:=by
          rw[e2,e3,hfb,Bool.eq_iff_iff];simp
         have HF:=zh hfb;have HS2:=zh hS2;have HMB:=zh hmb;clear hm e2 e3 hfb hS2 hmb;refine wp_region_keeps _ (by kernel_rfl) rfl (by kernel_rfl) ?_
         iterate 4
          refine ls ?_;simp only[addEnt]
         apply loose_is
         ·intro W vals hW hkn
          clear hkn;refine⟨?_⟩;simp only[fill];go_simp;refine looseUpon_calls ?_;exact(rMay_any W y).mono (by rintro e w3 ⟨rfl,rfl⟩;exact⟨_,rfl,Keeps.refl _ _,(by rw[HMB.out])⟩)
         iterate 3
          simp only[addEnt];refine ls ?_
         simp only[addEnt];apply loose_is
         ·intro W vals hW hkn
          clear hkn;refine⟨?_⟩;simp only[fill];go_simp;refine looseUpon_calls ?_;exact(rRaw_any W y (by have:=HM0.out.2;omega)).mono (by rintro e w3 ⟨rfl,hk⟩;exact⟨_,rfl,hk,(by rw[HS2.out])⟩)
         iterate 5
          simp only[addEnt];refine ls ?_
         simp only[addEnt];refine loose_nil (fun W vals hW hkn=> ?_);simp only[knowsAll]at hkn
         try simp only[and_true]at hkn
         simp only[fill,Act.put,zsa,zsc,zsz];clear hkn;have HZ:=zh hW;clear hW
         cases fb with
         | true=>
          go_wp2_with fail
          go_ret2
          have hu:uFirst s=2:=uFirst_hit (by omega) (by omega) (fun j h1 h2=>HR.out.n j h1 h2) ⟨HT.out.2,HIT.out.1 ⟨HM0.out,of_decide_eq_true HF.out.symm⟩⟩;exact⟨y,by rw[hu];rfl,fun _=>by rw[hu];exact HY.out,HR.out.k.then_ HZ.out⟩
         | false=>
          have HN:=zh (show¬uHit (s.take 2)from fun h=>by
           have e:=(HIT.out.2 h).2;have f:=HF.out;rw[decide_eq_true e]at f
           cases f)
          go_wp2_with fail
          exact⟨⟨2+1,by omega,by omega,by go_num,zh (HR.out.next HN.out HZ.out)⟩,by simp[intOf]⟩
        ·have HN:=zh (show¬uHit (s.take 2)from fun h=>hm (HIT.out.2 h).1)
         have hmb:rMayB y=false:=by
          rw[←Bool.not_eq_true];unfold rMayB;simp only[Bool.or_eq_true,Bool.and_eq_true,decide_eq_true_eq];exact fun h=>hm ⟨by omega,h⟩
         have HMB:=zh hmb;clear hm hmb;refine wp_region_keeps _ (by kernel_rfl) rfl (by kernel_rfl) ?_
         iterate 4
          refine ls ?_;simp only[addEnt]
         apply loose_is
         ·intro W vals hW hkn
          clear hkn;refine⟨?_⟩;simp only[fill];go_simp;refine looseUpon_calls ?_;exact(rMay_any W y).mono (by rintro e w3 ⟨rfl,rfl⟩;exact⟨_,rfl,Keeps.refl _ _,(by rw[HMB.out])⟩)
         iterate 2
          simp only[addEnt];refine ls ?_
         iterate 6
          simp only[addEnt];refine lo ?_
         simp only[addEnt];refine ls ?_;simp only[addEnt];refine loose_nil (fun W vals hW hkn=> ?_);simp only[knowsAll]at hkn
         try simp only[and_true]at hkn
         simp only[fill,Act.put,zsa,zsc,zsz];clear hkn;have HZ:=zh hW;clear hW
         go_wp2_with fail
         exact⟨⟨2+1,by omega,by omega,by go_num,zh (HR.out.next HN.out HZ.out)⟩,by simp[intOf]⟩
    ·have HN:=zh (rLead_no HT.out.1 HT.out.2 (by omega) (show¬(uLead 2≤a.toNat∧a.toNat < uMost 2)from hr))
     have hat2:=a.toNat_lt;have hbb:(decide ((a.toNat:Int) < 192) || decide ((a.toNat:Int)≥224))=true:=by simp;omega
     clear hat hl hr
     go_wp2_with fail
     all_goals exact⟨⟨2+1,by omega,by omega,by go_num,zh (HR.out.next HN.out (Keeps.refl _ _))⟩,by simp[intOf]⟩
  ·skip
   by_cases hl:s.length < 3
   ·have hlb:decide ((3:Int)≤s.length)=false:=decide_eq_false (by omega)
    have HL:=zh hl;clear hl
    go_wp2_with fail
    go_ret2
    have hu:uFirst s=0:=uFirst_none (fun j h1 h2 h3=>by
     have:=HL.out
     rcases Nat.lt_or_ge j 3 with h | h
     ·exact HR.out.n j h1 h h3
     ·omega)
    exact⟨0,by rw[hu];rfl,fun h=>absurd hu h,HR.out.k⟩
   ·have hlb:decide ((3:Int)≤s.length)=true:=decide_eq_true (by omega)
    have hpos:0 < s.length:=by omega
    obtain⟨a,t,hat⟩:∃a t,s=a::t:=by
     cases s with
     | nil=>simp at hpos
     | cons a t=>exact⟨a,t,rfl⟩
    have HT:=zh (And.intro hat (show 3≤s.length by omega));have ha:∀h:0 < S.size,S[0]'h=a:=fun h=>by
     rw[str_get HS.out.1 hpos h];simp[hat]
    by_cases hr:224≤a.toNat∧a.toNat < 240
    ·obtain⟨hr1,hr2⟩:=hr
     have f1:decide ((a.toNat:Int) < 224)=false:=decide_eq_false (by omega);have f2:decide ((a.toNat:Int)≥240)=false:=decide_eq_false (by omega);have f3:decide ((240:Int)≤a.toNat)=false:=decide_eq_false (by omega);obtain⟨x,hx⟩:∃x,a.toNat - 224=x:=⟨_,rfl⟩;have hxi:((a.toNat:Int) - 224)=x:=by omega
     have HX:=zh hx;have hx255:x≤255:=by have:=a.toNat_lt;omega
     have HA:=zh (And.intro hr1 hr2);clear hat hl hx hr1 hr2
     go_wp2_with fail
     go_loopw [8,9] (fun r i W=>∃m y:Nat,1≤m∧m≤3∧i= .int .i64 m∧r= .int .i32 (y:Int)∧Hid (y=uMore x ((s.take m).drop 1)∧wr=W)) (fun _ i _=>3 - (intOf i).toNat)
     case atStart=>exact⟨1,x,by omega,by omega,rfl,by congr 1 <;> omega,zh ⟨by rw[HT.out.1];rfl,rfl⟩⟩
     case round=>
      obtain⟨m,y,hm1,hm,rfl,rfl,HM⟩:=hrel;obtain⟨hy,rfl⟩:=HM.out;have hlt2:=uMore_lt x ((s.take m).drop 1);rw[←hy,List.length_drop,List.length_take]at hlt2
      by_cases hmk:m < 3
      ·skip
       have hmk' :decide ((m:Int) < 3)=true:=decide_eq_true (by omega);have hms:m < s.length:=by have:=HT.out.2;omega
       have hyl:y < 33554432:=by
        refine Nat.lt_of_lt_of_le hlt2 ?_;refine Nat.le_trans (Nat.mul_le_mul (show x+1≤256 by omega) (Nat.pow_le_pow_right (by omega) (show min m s.length - 1≤2 by omega))) ?_;omega
       obtain⟨c,hc⟩:∃c,s[m]=c:=⟨_,rfl⟩;have ix:∀h:m < S.size,S[m]'h=c:=fun h=>by rw[str_get HS.out.1 hms h,hc]
       have HNX:=zh (rMore_step (x:=x) hm1 hms hc hy);obtain⟨d,hd⟩:∃d,c.toNat % 64=d:=⟨_,rfl⟩;have hd64:d < 64:=by omega
       have ht:(c.toNat:Int).tmod 64=(d:Int):=by rw[Int.tmod_eq_emod_of_nonneg (by omega)];omega
       rw[hd]at HNX;have hsz2:(m:Int) < s.length:=by omega
       have hyd:=zh (show Value.int .i32 (RowKit.wrap32 (64*(y:Int)+RowKit.wrap32 ((RowKit.wrap64 (c.toNat:Int)).tmod 64)))=Value.int .i32 ((64*y+d:Nat):Int)by
        rw[show RowKit.wrap64 (c.toNat:Int)=c.toNat by unfold RowKit.wrap64;have:=c.toNat_lt;omega,ht,show RowKit.wrap32 (d:Int)=d by unfold RowKit.wrap32;omega,show RowKit.wrap32 (64*(y:Int)+d)=64*y+d by unfold RowKit.wrap32;omega]
        congr 1)
       clear hlt2 hc hd hy HM ht
       go_wp2_with fail
       all_goals exact⟨⟨m+1,64*y+d,by omega,by omega,by go_num,hyd.out,zh ⟨HNX.out,trivial⟩⟩,by simp[intOf];omega⟩
      ·obtain rfl:m=3:=by omega
       have HY:=zh (show y=uDec (s.take 3)by
        rw[hy];exact rDec_more HT.out.1 HT.out.2 (by omega) HX.out)
       have hyl:y≤2147483647:=by
        refine Nat.le_trans (Nat.le_of_lt hlt2) ?_;refine Nat.le_trans (Nat.mul_le_mul (show x+1≤256 by omega) (Nat.pow_le_pow_right (by omega) (show min 3 s.length - 1≤3 by omega))) ?_;omega
       clear hlt2 hy HM;have HIT:=zh (show(uMay y∧uRaw y=s.take 3)↔uHit (s.take 3)by rw[HY.out];exact uHit_iff.symm);have hks:(3:Int)≤s.length:=by have:=HT.out.2;omega
       go_wp2_with fail
       by_cases hy0:y=0
       ·have HN:=zh (show¬uHit (s.take 3)from fun h=>by have:=(HIT.out.2 h).1.1;omega)
        subst hy0;refine wp_region_keeps _ (by kernel_rfl) rfl (by kernel_rfl) ?_
        iterate 3
         refine ls ?_;simp only[addEnt]
        iterate 2
         refine lo ?_;simp only[addEnt]
        iterate 2
         refine ls ?_;simp only[addEnt]
        iterate 6
         refine lo ?_;simp only[addEnt]
        refine ls ?_;simp only[addEnt];refine loose_nil (fun W vals hW hkn=> ?_);simp only[knowsAll]at hkn
        try simp only[and_true]at hkn
        simp only[fill,Act.put,zsa,zsc,zsz];clear hkn;have HZ:=zh hW;clear hW
        go_wp2_with fail
        exact⟨⟨3+1,by omega,by omega,by go_num,zh (HR.out.next HN.out HZ.out)⟩,by simp[intOf]⟩
       ·have hyp:0 < y:=by omega
        by_cases hm:uMay y
        ·have HM0:=zh hm
         have hmb:rMayB y=true:=by
          unfold rMayB;have:=hm.2;simp only[Bool.or_eq_true,Bool.and_eq_true,decide_eq_true_eq];exact this
         obtain⟨S2,hS2⟩:∃S2:ByteArray,(⟨(uRaw y).toArray⟩:ByteArray)=S2:=⟨_,rfl⟩;obtain⟨S3,hS3⟩:∃S3,S.extract 0 3=S3:=⟨_,rfl⟩;have e2:S2.toList=uRaw y:=by rw[←hS2,Lib.toList_data]
         have e3:S3.toList=s.take 3:=by rw[←hS3,←HS.out.1,str_cut,Lib.toList_data];simp
         obtain⟨fb,hfb⟩:∃fb:Bool,fb=decide (uRaw y=s.take 3):=⟨_,rfl⟩;have hcmp:(S2.toList==S3.toList)=fb:=by
          rw[e2,e3,hfb,Bool.eq_iff_iff];simp
         have HF:=zh hfb;have HS2:=zh hS2;have HMB:=zh hmb;clear hm e2 e3 hfb hS2 hmb;refine wp_region_keeps _ (by kernel_rfl) rfl (by kernel_rfl) ?_
         iterate 4
          refine ls ?_;simp only[addEnt]
         apply loose_is
         ·intro W vals hW hkn
          clear hkn;refine⟨?_⟩;simp only[fill];go_simp;refine looseUpon_calls ?_;exact(rMay_any W y).mono (by rintro e w3 ⟨rfl,rfl⟩;exact⟨_,rfl,Keeps.refl _ _,(by rw[HMB.out])⟩)
         iterate 3
          simp only[addEnt];refine ls ?_
         simp only[addEnt];apply loose_is
         ·intro W vals hW hkn
          clear hkn;refine⟨?_⟩;simp only[fill];go_simp;refine looseUpon_calls ?_;exact(rRaw_any W y (by have:=HM0.out.2;omega)).mono (by rintro e w3 ⟨rfl,hk⟩;exact⟨_,rfl,hk,(by rw[HS2.out])⟩)
         iterate 5
          simp only[addEnt];refine ls ?_
         simp only[addEnt];refine loose_nil (fun W vals hW hkn=> ?_);simp only[knowsAll]at hkn
         try simp only[and_true]at hkn
         simp only[fill,Act.put,zsa,zsc,zsz];clear hkn;have HZ:=zh hW;clear hW
         cases fb with
         | true=>
          go_wp2_with fail
          go_ret2
          have hu:uFirst s=3:=uFirst_hit (by omega) (by omega) (fun j h1 h2=>HR.out.n j h1 h2) ⟨HT.out.2,HIT.out.1 ⟨HM0.out,of_decide_eq_true HF.out.symm⟩⟩;exact⟨y,by rw[hu];rfl,fun _=>by rw[hu];exact HY.out,HR.out.k.then_ HZ.out⟩
         | false=>
          have HN:=zh (show¬uHit (s.take 3)from fun h=>by
           have e:=(HIT.out.2 h).2;have f:=HF.out;rw[decide_eq_true e]at f
           cases f)
          go_wp2_with fail
          exact⟨⟨3+1,by omega,by omega,by go_num,zh (HR.out.next HN.out HZ.out)⟩,by simp[intOf]⟩
        ·have HN:=zh (show¬uHit (s.take 3)from fun h=>hm (HIT.out.2 h).1)
         have hmb:rMayB y=false:=by
          rw[←Bool.not_eq_true];unfold rMayB;simp only[Bool.or_eq_true,Bool.and_eq_true,decide_eq_true_eq];exact fun h=>hm ⟨by omega,h⟩
         have HMB:=zh hmb;clear hm hmb;refine wp_region_keeps _ (by kernel_rfl) rfl (by kernel_rfl) ?_
         iterate 4
          refine ls ?_;simp only[addEnt]
         apply loose_is
         ·intro W vals hW hkn
          clear hkn;refine⟨?_⟩;simp only[fill];go_simp;refine looseUpon_calls ?_;exact(rMay_any W y).mono (by rintro e w3 ⟨rfl,rfl⟩;exact⟨_,rfl,Keeps.refl _ _,(by rw[HMB.out])⟩)
         iterate 2
          simp only[addEnt];refine ls ?_
         iterate 6
          simp only[addEnt];refine lo ?_
         simp only[addEnt];refine ls ?_;simp only[addEnt];refine loose_nil (fun W vals hW hkn=> ?_);simp only[knowsAll]at hkn
         try simp only[and_true]at hkn
         simp only[fill,Act.put,zsa,zsc,zsz];clear hkn;have HZ:=zh hW;clear hW
         go_wp2_with fail
         exact⟨⟨3+1,by omega,by omega,by go_num,zh (HR.out.next HN.out HZ.out)⟩,by simp[intOf]⟩
    ·have HN:=zh (rLead_no HT.out.1 HT.out.2 (by omega) (show¬(uLead 3≤a.toNat∧a.toNat < uMost 3)from hr))
     have hat2:=a.toNat_lt;have hbb:(decide ((a.toNat:Int) < 224) || decide ((a.toNat:Int)≥240))=true:=by simp;omega
     clear hat hl hr
     go_wp2_with fail
     all_goals exact⟨⟨3+1,by omega,by omega,by go_num,zh (HR.out.next HN.out (Keeps.refl _ _))⟩,by simp[intOf]⟩
  ·skip
   by_cases hl:s.length < 4
   ·have hlb:decide ((4:Int)≤s.length)=false:=decide_eq_false (by omega)
    have HL:=zh hl;clear hl
    go_wp2_with fail
    go_ret2
    have hu:uFirst s=0:=uFirst_none (fun j h1 h2 h3=>by
     have:=HL.out
     rcases Nat.lt_or_ge j 4 with h | h
     ·exact HR.out.n j h1 h h3
     ·omega)
    exact⟨0,by rw[hu];rfl,fun h=>absurd hu h,HR.out.k⟩
   ·have hlb:decide ((4:Int)≤s.length)=true:=decide_eq_true (by omega)
    have hpos:0 < s.length:=by omega
    obtain⟨a,t,hat⟩:∃a t,s=a::t:=by
     cases s with
     | nil=>simp at hpos
     | cons a t=>exact⟨a,t,rfl⟩
    have HT:=zh (And.intro hat (show 4≤s.length by omega));have ha:∀h:0 < S.size,S[0]'h=a:=fun h=>by
     rw[str_get HS.out.1 hpos h];simp[hat]
    by_cases hr:240≤a.toNat∧a.toNat < 248
    ·obtain⟨hr1,hr2⟩:=hr
     have f1:decide ((a.toNat:Int) < 240)=false:=decide_eq_false (by omega);have f2:decide ((a.toNat:Int)≥248)=false:=decide_eq_false (by omega);have f3:decide ((248:Int)≤a.toNat)=false:=decide_eq_false (by omega);obtain⟨x,hx⟩:∃x,a.toNat - 240=x:=⟨_,rfl⟩;have hxi:((a.toNat:Int) - 240)=x:=by omega
     have HX:=zh hx;have hx255:x≤255:=by have:=a.toNat_lt;omega
     have HA:=zh (And.intro hr1 hr2);clear hat hl hx hr1 hr2
     go_wp2_with fail
     go_loopw [8,9] (fun r i W=>∃m y:Nat,1≤m∧m≤4∧i= .int .i64 m∧r= .int .i32 (y:Int)∧Hid (y=uMore x ((s.take m).drop 1)∧wr=W)) (fun _ i _=>4 - (intOf i).toNat)
     case atStart=>exact⟨1,x,by omega,by omega,rfl,by congr 1 <;> omega,zh ⟨by rw[HT.out.1];rfl,rfl⟩⟩
     case round=>
      obtain⟨m,y,hm1,hm,rfl,rfl,HM⟩:=hrel;obtain⟨hy,rfl⟩:=HM.out;have hlt2:=uMore_lt x ((s.take m).drop 1);rw[←hy,List.length_drop,List.length_take]at hlt2
      by_cases hmk:m < 4
      ·skip
       have hmk' :decide ((m:Int) < 4)=true:=decide_eq_true (by omega);have hms:m < s.length:=by have:=HT.out.2;omega
       have hyl:y < 33554432:=by
        refine Nat.lt_of_lt_of_le hlt2 ?_;refine Nat.le_trans (Nat.mul_le_mul (show x+1≤256 by omega) (Nat.pow_le_pow_right (by omega) (show min m s.length - 1≤2 by omega))) ?_;omega
       obtain⟨c,hc⟩:∃c,s[m]=c:=⟨_,rfl⟩;have ix:∀h:m < S.size,S[m]'h=c:=fun h=>by rw[str_get HS.out.1 hms h,hc]
       have HNX:=zh (rMore_step (x:=x) hm1 hms hc hy);obtain⟨d,hd⟩:∃d,c.toNat % 64=d:=⟨_,rfl⟩;have hd64:d < 64:=by omega
       have ht:(c.toNat:Int).tmod 64=(d:Int):=by rw[Int.tmod_eq_emod_of_nonneg (by omega)];omega
       rw[hd]at HNX;have hsz2:(m:Int) < s.length:=by omega
       have hyd:=zh (show Value.int .i32 (RowKit.wrap32 (64*(y:Int)+RowKit.wrap32 ((RowKit.wrap64 (c.toNat:Int)).tmod 64)))=Value.int .i32 ((64*y+d:Nat):Int)by
        rw[show RowKit.wrap64 (c.toNat:Int)=c.toNat by unfold RowKit.wrap64;have:=c.toNat_lt;omega,ht,show RowKit.wrap32 (d:Int)=d by unfold RowKit.wrap32;omega,show RowKit.wrap32 (64*(y:Int)+d)=64*y+d by unfold RowKit.wrap32;omega]
        congr 1)
       clear hlt2 hc hd hy HM ht
       go_wp2_with fail
       all_goals exact⟨⟨m+1,64*y+d,by omega,by omega,by go_num,hyd.out,zh ⟨HNX.out,trivial⟩⟩,by simp[intOf];omega⟩
      ·obtain rfl:m=4:=by omega
       have HY:=zh (show y=uDec (s.take 4)by
        rw[hy];exact rDec_more HT.out.1 HT.out.2 (by omega) HX.out)
       have hyl:y≤2147483647:=by
        refine Nat.le_trans (Nat.le_of_lt hlt2) ?_;refine Nat.le_trans (Nat.mul_le_mul (show x+1≤256 by omega) (Nat.pow_le_pow_right (by omega) (show min 4 s.length - 1≤3 by omega))) ?_;omega
       clear hlt2 hy HM;have HIT:=zh (show(uMay y∧uRaw y=s.take 4)↔uHit (s.take 4)by rw[HY.out];exact uHit_iff.symm);have hks:(4:Int)≤s.length:=by have:=HT.out.2;omega
       go_wp2_with fail
       by_cases hy0:y=0
       ·have HN:=zh (show¬uHit (s.take 4)from fun h=>by have:=(HIT.out.2 h).1.1;omega)
        subst hy0;refine wp_region_keeps _ (by kernel_rfl) rfl (by kernel_rfl) ?_
        iterate 3
         refine ls ?_;simp only[addEnt]
        iterate 2
         refine lo ?_;simp only[addEnt]
        iterate 2
         refine ls ?_;simp only[addEnt]
        iterate 6
         refine lo ?_;simp only[addEnt]
        refine ls ?_;simp only[addEnt];refine loose_nil (fun W vals hW hkn=> ?_);simp only[knowsAll]at hkn
        try simp only[and_true]at hkn
        simp only[fill,Act.put,zsa,zsc,zsz];clear hkn;have HZ:=zh hW;clear hW
        go_wp2_with fail
        exact⟨⟨4+1,by omega,by omega,by go_num,zh (HR.out.next HN.out HZ.out)⟩,by simp[intOf]⟩
       ·have hyp:0 < y:=by omega
        by_cases hm:uMay y
        ·have HM0:=zh hm
         have hmb:rMayB y=true:=by
          unfold rMayB;have:=hm.2;simp only[Bool.or_eq_true,Bool.and_eq_true,decide_eq_true_eq];exact this
         obtain⟨S2,hS2⟩:∃S2:ByteArray,(⟨(uRaw y).toArray⟩:ByteArray)=S2:=⟨_,rfl⟩;obtain⟨S3,hS3⟩:∃S3,S.extract 0 4=S3:=⟨_,rfl⟩;have e2:S2.toList=uRaw y:=by rw[←hS2,Lib.toList_data]
         have e3:S3.toList=s.take 4:=by rw[←hS3,←HS.out.1,str_cut,Lib.toList_data];simp
         obtain⟨fb,hfb⟩:∃fb:Bool,fb=decide (uRaw y=s.take 4):=⟨_,rfl⟩;have hcmp:(S2.toList==S3.toList)=fb:=by
          rw[e2,e3,hfb,Bool.eq_iff_iff];simp
         have HF:=zh hfb;have HS2:=zh hS2;have HMB:=zh hmb;clear hm e2 e3 hfb hS2 hmb;refine wp_region_keeps _ (by kernel_rfl) rfl (by kernel_rfl) ?_
         iterate 4
          refine ls ?_;simp only[addEnt]
         apply loose_is
         ·intro W vals hW hkn
          clear hkn;refine⟨?_⟩;simp only[fill];go_simp;refine looseUpon_calls ?_;exact(rMay_any W y).mono (by rintro e w3 ⟨rfl,rfl⟩;exact⟨_,rfl,Keeps.refl _ _,(by rw[HMB.out])⟩)
         iterate 3
          simp only[addEnt];refine ls ?_
         simp only[addEnt];apply loose_is
         ·intro W vals hW hkn
          clear hkn;refine⟨?_⟩;simp only[fill];go_simp;refine looseUpon_calls ?_;exact(rRaw_any W y (by have:=HM0.out.2;omega)).mono (by rintro e w3 ⟨rfl,hk⟩;exact⟨_,rfl,hk,(by rw[HS2.out])⟩)
         iterate 5
          simp only[addEnt];refine ls ?_
         simp only[addEnt];refine loose_nil (fun W vals hW hkn=> ?_);simp only[knowsAll]at hkn
         try simp only[and_true]at hkn
         simp only[fill,Act.put,zsa,zsc,zsz];clear hkn;have HZ:=zh hW;clear hW
         cases fb with
         | true=>
          go_wp2_with fail
          go_ret2
          have hu:uFirst s=4:=uFirst_hit (by omega) (by omega) (fun j h1 h2=>HR.out.n j h1 h2) ⟨HT.out.2,HIT.out.1 ⟨HM0.out,of_decide_eq_true HF.out.symm⟩⟩;exact⟨y,by rw[hu];rfl,fun _=>by rw[hu];exact HY.out,HR.out.k.then_ HZ.out⟩
         | false=>
          have HN:=zh (show¬uHit (s.take 4)from fun h=>by
           have e:=(HIT.out.2 h).2;have f:=HF.out;rw[decide_eq_true e]at f
           cases f)
          go_wp2_with fail
          exact⟨⟨4+1,by omega,by omega,by go_num,zh (HR.out.next HN.out HZ.out)⟩,by simp[intOf]⟩
        ·have HN:=zh (show¬uHit (s.take 4)from fun h=>hm (HIT.out.2 h).1)
         have hmb:rMayB y=false:=by
          rw[←Bool.not_eq_true];unfold rMayB;simp only[Bool.or_eq_true,Bool.and_eq_true,decide_eq_true_eq];exact fun h=>hm ⟨by omega,h⟩
         have HMB:=zh hmb;clear hm hmb;refine wp_region_keeps _ (by kernel_rfl) rfl (by kernel_rfl) ?_
         iterate 4
          refine ls ?_;simp only[addEnt]
         apply loose_is
         ·intro W vals hW hkn
          clear hkn;refine⟨?_⟩;simp only[fill];go_simp;refine looseUpon_calls ?_;exact(rMay_any W y).mono (by rintro e w3 ⟨rfl,rfl⟩;exact⟨_,rfl,Keeps.refl _ _,(by rw[HMB.out])⟩)
         iterate 2
          simp only[addEnt];refine ls ?_
         iterate 6
          simp only[addEnt];refine lo ?_
         simp only[addEnt];refine ls ?_;simp only[addEnt];refine loose_nil (fun W vals hW hkn=> ?_);simp only[knowsAll]at hkn
         try simp only[and_true]at hkn
         simp only[fill,Act.put,zsa,zsc,zsz];clear hkn;have HZ:=zh hW;clear hW
         go_wp2_with fail
         exact⟨⟨4+1,by omega,by omega,by go_num,zh (HR.out.next HN.out HZ.out)⟩,by simp[intOf]⟩
    ·have HN:=zh (rLead_no HT.out.1 HT.out.2 (by omega) (show¬(uLead 4≤a.toNat∧a.toNat < uMost 4)from hr))
     have hat2:=a.toNat_lt;have hbb:(decide ((a.toNat:Int) < 240) || decide ((a.toNat:Int)≥248))=true:=by simp;omega
     clear hat hl hr
     go_wp2_with fail
     all_goals exact⟨⟨4+1,by omega,by omega,by go_num,zh (HR.out.next HN.out (Keeps.refl _ _))⟩,by simp[intOf]⟩
  ·go_wp2_with fail
   go_ret2
   have hu:uFirst s=0:=uFirst_none HR.out.n;exact⟨0,by rw[hu];rfl,fun h=>absurd hu h,HR.out.k⟩
end Go.Proofs.YtahbikfbjenfpaaGreatDoor

namespace Go.Proofs.YtahbikfbjenfpaaGreatDoor
open Go.RowKit Go.Maps Go.Shelf

def runeE (x:Int):List Value:= [.int .i32 x]
theorem encRune:Enc 1 runeE:=⟨by omega,fun _=>rfl,fun a u hu=>by obtain rfl:=List.mem_singleton.1 hu;rfl⟩
theorem elemRune:ElemN Tryz.prog 154 21 1:=elemN_of (bytes:=4) (z:= .int .i32 0) (by kernel_rfl) (by kernel_rfl) (by omega) rfl
structure RnAt (w wr:World)(s:List UInt8)(k:Nat)(v:Value)(l:List Int):Prop where
 g:uGood s=uGood (s.drop k)
 ln:l.length≤k
 o:OwnN wr w.heap.size 21 1 runeE v l
 k:Keeps w wr []
def RnPost (w:World)(s:List UInt8)(e:Ending)(w' :World):Prop:=∃(v:Value) (a:Int),e= .returned (.tuple #[v,.int .i64 a])∧(if uGood s=true then a= -1 else 0≤a)∧Keeps w w' []
theorem RnAt.next {w wr w1 w2 w3:World}{s:List UInt8}{k m:Nat}{v v' :Value}{l:List Int}{r:Int}(h:RnAt w wr s k v l)(hm:uFirst (s.drop k)=m)(hm0:m≠0)(hk:k < s.length)(k1:Keeps wr w1 [])(k2:Keeps w1 w2 [])(ho:OwnN w3 w.heap.size 21 1 runeE v' (l++ [r]))(k3:Keeps w2 w3 v.ownBlock.toList):RnAt w w3 s (k+m) v' (l++ [r]):=by
 refine⟨?_, ?_,ho, ?_⟩
 ·rw[h.g,uGood_step (s:=s.drop k) (fun e=>by have:=congrArg List.length e;rw[List.length_drop,List.length_nil]at this;omega),hm,if_neg hm0,List.drop_drop]
 ·have:=h.ln
  rw[List.length_append,List.length_singleton];omega
 ·refine((h.k.then_ k1).then_ k2).trans k3 fun x hx hlt=> ?_
  have:=(h.o.rows x hx).1;omega
set_option maxRecDepth 100000 in
set_option maxHeartbeats 2000000 in
theorem rRunes_any (w:World)(s:List UInt8)(hs:s.length≤60000):Calls Tryz.prog 147 #[.string ⟨s.toArray⟩] w (RnPost w s):=by
 obtain⟨S,hS⟩:∃S:ByteArray,(⟨s.toArray⟩:ByteArray)=S:=⟨_,rfl⟩;have hsz:S.size=s.length:=by rw[←hS];rfl
 have HS:=zh (And.intro hS hsz);rw[hS];clear hS
 go_enter Tryz.func147,Tryz.ntmps147
 go_wp2_with fail
 go_loopw [4,5] (fun out i wr=>∃(k n c:Nat) (A:Option Addr) (l:List Int),k≤s.length∧i= .int .i64 k∧out= .slice A n c∧Hid (RnAt w wr s k (.slice A n c) l)) (fun _ i _=>s.length - (intOf i).toNat)
 case atStart=>exact⟨0,0,0,none, [],by omega,rfl,rfl,zh ⟨rfl,by simp,OwnN.nil _ _ _ _ _,Keeps.refl _ _⟩⟩
 case round=>
  obtain⟨k,n,c,A,l,hk,rfl,rfl,HR⟩:=hrel;have hsl:=HS.out.2
  by_cases hlt:k < s.length
  ·obtain⟨T,hT⟩:∃T,S.extract k S.size=T:=⟨_,rfl⟩
   have hT' :(⟨(s.drop k).toArray⟩:ByteArray)=T:=by
    rw[←hT,←HS.out.1,str_cut,List.take_of_length_le];rw[List.length_drop];show s.length - k≤s.length - k;omega
   have HF:=zh (show∀w,Calls Tryz.prog 162 #[.string T] w (FiPost w (s.drop k))from fun w=>by
    rw[←hT'];exact rFirst_any w _ (by rw[List.length_drop];omega))
   rw[hsz]at hT;have hkl:(k:Int)≤s.length:=by omega
   obtain⟨m,hm⟩:∃m,uFirst (s.drop k)=m:=⟨_,rfl⟩;have hml:=(uFirst_len (s.drop k)).1;rw[hm,List.length_drop]at hml;have HM:=zh (And.intro hm hlt);clear hT'
   go_wp2_with fail
   refine(HF.out _).mono ?_;rintro e w1 ⟨r,rfl,_,hk1⟩;rw[hm];have HK1:=zh hk1;clear hk1 hm hT
   by_cases hm0:m=0
   ·have hme:((m:Int)==0)=true:=by simp[hm0]
    go_wp2_with fail
    go_ret2
    have hu:uGood s=false:=by
     rw[HR.out.g,uGood_step (s:=s.drop k) (fun e=>by have:=congrArg List.length e;rw[List.length_drop,List.length_nil]at this;have:=HM.out.2;omega),HM.out.1,if_pos hm0]
    exact⟨_,_,rfl,by rw[hu];simp,HR.out.k.then_ HK1.out⟩
   ·have hme:((m:Int)==0)=false:=by simpa using hm0
    have h65:decide ((k:Int)+m > 65535)=false:=decide_eq_false (by omega);obtain⟨Wa,hWa⟩:∃Wa,w1.alloc (.cells #[.int .i32 (r:Int)] 21)=Wa:=⟨_,rfl⟩;have ra:Row Wa w1.heap.size 21 #[.int .i32 (r:Int)]:=by rw[←hWa];exact Row.new _ _ _
    have ka:Keeps w1 Wa []:=by rw[←hWa];exact Keeps.alloc _ _
    have HLa:=zh (show Lies Wa Wa.heap.size (some ⟨w1.heap.size,0,none⟩) ([(r:Int)].flatMap runeE)from lies_of_row ra rfl);have HA:=zh (And.intro ka (And.intro ((HR.out.o.keeps HK1.out).keeps ka) ((HR.out.k.then_ HK1.out).then_ ka)));clear ra ka
    go_wp2_with (at_builtin;refine wpList_append_N elemRune encRune rfl (.tmp 28) (.tmp 30) rfl w.heap.size (.slice A n c) (some ⟨w1.heap.size,0,none⟩) 1 1 l [(r:Int)] rfl rfl rfl HA.out.2.1 HLa.out (by have:=HR.out.ln;simp;omega) HA.out.2.2.size ?_;intro A5 c5 w5 l5 hl5 hlen5 ho5 hk5 _;have H5:=zh (And.intro hl5.out (And.intro ho5 hk5));clear hl5 ho5 hk5 hlen5)
    exact⟨⟨k+m,_,c5,A5,l++ [(r:Int)],by omega,by go_num,rfl,zh (by rw[←H5.out.1];have:=H5.out.2.1;rw[H5.out.1]at this ⊢;exact HR.out.next HM.out.1 hm0 HM.out.2 HK1.out HA.out.1 this H5.out.2.2)⟩,by simp[intOf];omega⟩
  ·obtain rfl:k=s.length:=by omega
   go_wp2_with fail
   go_ret2
   have hu:uGood s=true:=by rw[HR.out.g,List.drop_length];rfl
   exact⟨_,_,rfl,by rw[if_pos hu],HR.out.k⟩
end Go.Proofs.YtahbikfbjenfpaaGreatDoor

namespace Go.Proofs.YtahbikfbjenfpaaGreatDoor
open Go.RowKit Go.Shelf

set_option maxRecDepth 100000 in
set_option maxHeartbeats 1000000 in
theorem rSaid_any (w:World)(s:List UInt8)(hs:s.length≤60000):Calls Tryz.prog 93 #[.string ⟨s.toArray⟩] w fun e w' =>e= .returned (.bool (tSaid s))∧Keeps w w' []:=by
 obtain⟨S,hS⟩:∃S:ByteArray,(⟨s.toArray⟩:ByteArray)=S:=⟨_,rfl⟩;have hz:S.size=s.length:=by rw[←hS];rfl
 have HR:=zh (show∀w:World,Calls Tryz.prog 147 #[.string S] w (RnPost w s)from fun w=>by
  rw[←hS];exact rRunes_any w s hs)
 rw[hS];clear hS
 by_cases h0:s.length < 1
 ·have HT:=zh (show tSaid s=false by unfold tSaid;simp;omega)
  go_enter Tryz.func93,Tryz.ntmps93
  go_wp2_with fail
  go_ret;exact⟨by rw[HT.out];rfl,Keeps.refl _ _⟩
 ·by_cases h2:200 < s.length
  ·have HT:=zh (show tSaid s=false by unfold tSaid;simp;omega)
   have hp:0 < s.length:=by omega
   clear h0
   go_enter Tryz.func93,Tryz.ntmps93
   go_wp2_with fail
   go_ret;exact⟨by rw[HT.out];rfl,Keeps.refl _ _⟩
  ·have HT:=zh (show tSaid s=uGood s by
    unfold tSaid;rw[decide_eq_true (by omega),decide_eq_true (by omega)];rfl)
   have hp:0 < s.length:=by omega
   have hq:s.length≤200:=by omega
   clear h0 h2
   go_enter Tryz.func93,Tryz.ntmps93
   go_wp2_with fail
   refine(HR.out _).mono ?_;rintro e w1 ⟨v,a,rfl,ha,hk⟩;have HK:=zh hk;clear hk
   cases hg:uGood s with
   | true=>
    rw[hg,if_pos rfl]at ha;subst ha;rw[hg]at HT;clear hg
    go_wp2_with fail
    go_ret;exact⟨by rw[HT.out];rfl,HK.out⟩
   | false=>
    rw[hg,if_neg (by simp)]at ha;rw[hg]at HT;have hb:decide (a < 0)=false:=decide_eq_false (by omega);clear hg ha
    go_wp2_with fail
    go_ret;exact⟨by rw[HT.out];rfl,HK.out⟩
theorem tSignN_zero (s:List UInt8):(tSignN s=0)↔tSign s=false:=by
 unfold tSignN tSign;rw[List.countP_eq_zero,List.any_eq_false]
set_option maxRecDepth 100000 in
set_option maxHeartbeats 1000000 in
theorem rName_any (w:World)(s:List UInt8)(hs:s.length≤60000):Calls Tryz.prog 27 #[.string ⟨s.toArray⟩] w fun e w' =>e= .returned (.bool (tName s))∧Keeps w w' []:=by
 obtain⟨S,hS⟩:∃S:ByteArray,(⟨s.toArray⟩:ByteArray)=S:=⟨_,rfl⟩;have HS:=zh hS;rw[hS];clear hS
 go_enter Tryz.func27,Tryz.ntmps27
 go_wp2_with fail
 rw[←HS.out];refine(rSaid_any w s hs).mono ?_;rintro e w1 ⟨rfl,hk⟩;rw[HS.out];have HK:=zh hk;clear hk
 cases hg:tSaid s with
 | false=>
  have HT:=zh (show tName s=false by unfold tName;rw[hg];rfl);clear hg
  go_wp2_with fail
  go_ret;exact⟨by rw[HT.out];rfl,HK.out⟩
 | true=>
  have HT:=zh (show tName s= !tSign s by unfold tName;rw[hg];rfl);clear hg
  go_wp2_with fail
  rw[←HS.out];refine(rSigns_any w1 s hs).mono ?_;rintro e w2 ⟨rfl,rfl⟩;rw[HS.out]
  cases hb:tSign s with
  | true=>
   have hne:(((tSignN s:Nat):Int)==0)=false:=by
    rw[beq_eq_false_iff_ne];intro e;have:=(tSignN_zero s).1 (by omega);rw[hb]at this
    cases this
   rw[hb]at HT;clear hb
   generalize tSignN s=k at*
   go_wp2_with fail
   go_ret;exact⟨by rw[HT.out];rfl,HK.out⟩
  | false=>
   have h0:=(tSignN_zero s).2 hb;rw[hb]at HT;rw[h0];clear hb h0
   go_wp2_with fail
   go_ret;exact⟨by rw[HT.out];rfl,HK.out⟩

theorem tLev_slash (s:List UInt8):tLev (s++ [47])=tLev s++ [[]]:=tLev_app s []
theorem tLev_snoc {a:UInt8}(ha:a≠47)(s:List UInt8):∃ls x,tLev s=ls++ [x]∧tLev (s++ [a])=ls++ [x++ [a]]:=by
 induction s with
 | nil=>exact⟨[], [],rfl,by rw[List.nil_append,tLev_plain (by simpa using Ne.symm ha)];rfl⟩
 | cons b s ih=>
  obtain⟨ls,x,h1,h2⟩:=ih
  by_cases hb:b=47
  ·subst hb
   refine⟨[]::ls,x, ?_, ?_⟩
   ·rw[tLev,if_pos rfl,h1];rfl
   ·rw[List.cons_append,tLev,if_pos rfl,h2];rfl
  ·obtain⟨l,m,e1,e2⟩:=tLev_other (s:=s) hb
   obtain⟨l',m',e3,e4⟩:=tLev_other (s:=s++ [a]) hb;rw[h1]at e1;rw[h2]at e3
   cases ls with
   | nil=>
    injection e1 with e5 e6
    injection e3 with e7 e8
    exact⟨[],b::x,by rw[e2,←e5,←e6];rfl,by rw[List.cons_append,e4,←e7,←e8];rfl⟩
   | cons y ls=>
    injection e1 with e5 e6
    injection e3 with e7 e8
    exact⟨(b::y)::ls,x,by rw[e2,←e5,←e6];rfl,by rw[List.cons_append,e4,←e7,←e8];rfl⟩
theorem tLev_set {a:UInt8}(ha:a≠47){s:List UInt8}{l:List (List UInt8)}{m:Nat}(hl:tLev s=l)(hm:l.length=m+1)(h:m < l.length):tLev (s++ [a])=l.set m (l[m]++ [a]):=by
 obtain⟨ls,x,h1,h2⟩:=tLev_snoc ha s;subst hl;have hls:ls.length=m:=by
  rw[h1,List.length_append,List.length_singleton]at hm;omega
 subst hls;rw[h2];simp[h1]
theorem elemTxt:ElemN Tryz.prog 27 9 1:=elemN_of (bytes:=16) (z:= .string ⟨#[]⟩) (by kernel_rfl) (by kernel_rfl) (by omega) rfl
theorem flat_txt (l:List (List UInt8)):l.flatMap txtV=txL l:=by
 induction l with
 | nil=>rfl
 | cons a l ih=>rw[List.flatMap_cons,ih];rfl
abbrev OwnT (w:World)(B:Nat)(v:Value)(l:List (List UInt8)):Prop:=OwnN w B 9 1 txtV v l
theorem OwnN.lies1 {w:World}{B n c:Nat}{A:Option Addr}{l:List (List UInt8)}(h:OwnT w B (.slice A n c) l):n=l.length∧Lies w w.heap.size A (txL l):=by
 obtain⟨A',c',e⟩:=OwnN.slice h;injection e with e1 e2 e3
 subst e1 e2 e3;refine⟨rfl, ?_⟩;have:=(OwnN.at_ h encTxt).lies encTxt
 rwa [flat_txt]at this
theorem OwnN.cap {w:World}{B n c:Nat}{A:Option Addr}{l:List (List UInt8)}(h:OwnT w B (.slice A n c) l):l.length≤c:=by
 rcases h.2 with⟨hv,h0⟩ | ⟨gb,cap,cur,hv,_,_,h1,h2,_⟩
 ·injection hv with _ h3 h4
  subst h3 h4;omega
 ·injection hv with _ h3 h4
  subst h3 h4;exact h1
theorem ownT_one (w:World)(x:List UInt8):OwnT (w.alloc (.cells #[.string ⟨x.toArray⟩] 9)) w.heap.size (.slice (some ⟨w.heap.size,0,none⟩) 1 1) [x]:=
 ⟨by simp[txtV],.inr ⟨w.heap.size,1, #[.string ⟨x.toArray⟩],rfl,Nat.le_refl _,Row.new _ _ _,by simp,by simp[maxLen],by simp,by simp[txtV]⟩⟩
/-- The levels of the first bytes of a text. -/
structure LvAt (w wr:World)(s:List UInt8)(v:Value)(l:List (List UInt8)):Prop where
 e:tLev s=l
 o:OwnT wr w.heap.size v l
 k:Keeps w wr []
def LvPost (w:World)(s:List UInt8)(e:Ending)(w' :World):Prop:=∃A c,e= .returned (.slice A (tLev s).length c)∧(tLev s).length≤c∧Lies w' w'.heap.size A (txL (tLev s))∧Keeps w w' []
set_option maxRecDepth 100000 in
set_option maxHeartbeats 2000000 in
theorem rLevels_any (w:World)(s:List UInt8)(hs:s.length≤60000):Calls Tryz.prog 95 #[.string ⟨s.toArray⟩] w (LvPost w s):=by
 obtain⟨S,hS⟩:∃S:ByteArray,(⟨s.toArray⟩:ByteArray)=S:=⟨_,rfl⟩;have hz:S.size=s.length:=by rw[←hS];rfl
 have HS:=zh hS;rw[hS];clear hS
 go_enter Tryz.func95,Tryz.ntmps95
 go_wp2_with fail
 go_loopw [3,4] (fun out i wr=>∃(k m c:Nat) (A:Option Addr) (l:List (List UInt8)),k≤s.length∧i= .int .i64 k∧out= .slice A (m+1) c∧m≤k∧Hid (LvAt w wr (s.take k) (.slice A (m+1) c) l)) (fun _ i _=>s.length - (intOf i).toNat)
 case atStart=>exact⟨0,0,1,_, [[]],by omega,rfl,rfl,by omega,zh ⟨rfl,ownT_one w [],Keeps.alloc _ _⟩⟩
 case round=>
  obtain⟨k,m,c,A,l,hk,rfl,rfl,hmk,HR⟩:=hrel
  by_cases hlt:k < s.length
  ·have HT:=zh (List.take_succ_eq_append_getElem hlt)
   have ix:∀h,S[k]'h=s[k]:=fun h=>str_get HS.out hlt h
   obtain⟨a,ha⟩:∃a,s[k]=a:=⟨_,rfl⟩;rw[ha]at HT ix;have hcut:S.extract k (k+1)=⟨[a].toArray⟩:=by
    rw[←HS.out,str_cut,Nat.add_sub_cancel_left,List.drop_eq_getElem_cons hlt,ha];rfl
   by_cases h47:a=47
   ·subst h47
    have HL:=zh (show tLev (s.take (k+1))=l++ [[]]by rw[HT.out,tLev_slash,HR.out.e]);obtain⟨Wa,hWa⟩:∃Wa,wr.alloc (.cells #[.string ⟨#[]⟩] 9)=Wa:=⟨_,rfl⟩;have ra:Row Wa wr.heap.size 9 #[.string ⟨#[]⟩]:=by rw[←hWa];exact Row.new _ _ _
    have ka:Keeps wr Wa []:=by rw[←hWa];exact Keeps.alloc _ _
    have hln:m+1=l.length:=HR.out.o.lies1.1;have HLa:=zh (show Lies Wa Wa.heap.size (some ⟨wr.heap.size,0,none⟩) ([([]:List UInt8)].flatMap txtV)from lies_of_row ra rfl);have HA:=zh (And.intro ka (And.intro (HR.out.o.keeps ka) (And.intro (HR.out.k.then_ ka) hln)));clear ra ka hcut ha hln
    go_wp2_with (at_builtin;refine wpList_append_N elemTxt encTxt rfl (.tmp 16) (.tmp 17) rfl w.heap.size (.slice A (m+1) c) (some ⟨wr.heap.size,0,none⟩) 1 1 l [[]] rfl rfl rfl HA.out.2.1 HLa.out (by have:=HA.out.2.2.2;simp;omega) HA.out.2.2.1.size ?_;intro A5 c5 w5 l5 hl5 hlen5 ho5 hk5 _;have H5:=zh (And.intro hl5.out (And.intro ho5 hk5));have hl5n:l5.length=m+2:=(by have:=HA.out.2.2.2;rw[hl5.out,List.length_append,List.length_singleton];omega);rw[hl5n];clear hl5 ho5 hk5 hlen5)
    have ho:=H5.out.2.1;rw[hl5n,H5.out.1]at ho;exact⟨⟨k+1,m+1,c5,A5,l++ [[]],by omega,by go_num,rfl,by omega,zh ⟨HL.out,ho,HA.out.2.2.1.trans H5.out.2.2 fun x hx hlt=>by
     have:=(HA.out.2.1.rows x hx).1;omega⟩⟩,by simp[intOf];omega⟩
   ·have hb:(((a.toNat:Int))==47)=false:=by
     rw[beq_eq_false_iff_ne];intro h;exact h47 (UInt8.toNat_inj.1 (by simpa using (show a.toNat=47 by omega)))
    have hln:m+1=l.length:=HR.out.o.lies1.1;have hml:m < l.length:=by omega
    have HL:=zh (show tLev (s.take (k+1))=l.set m (l[m]++ [a])by
     rw[HT.out];exact tLev_set h47 HR.out.e hln.symm hml)
    obtain⟨g,cur,rfl,-,hgB,hr,hc,-⟩:=OwnN.one (q:=fun a=> .string ⟨a.toArray⟩) (fun _=>rfl) HR.out.o hml;obtain⟨X,hX⟩:∃X,l[m]=X:=⟨_,rfl⟩;rw[hX]at hc HL;have hXl:X.length≤60000:=by
     have h1:X∈tLev (s.take k):=by rw[HR.out.e,←hX];exact List.getElem_mem hml
     have:=tLev_size h1;rw[List.length_take]at this;omega
    obtain⟨LS,hLS⟩:∃LS:ByteArray,(⟨X.toArray⟩:ByteArray)=LS:=⟨_,rfl⟩;have hLz:LS.size≤60000:=by rw[←hLS];exact hXl
    have hcat:LS++S.extract k (k+1)=⟨(X++ [a]).toArray⟩:=by rw[hcut,←hLS,txt_app]
    obtain⟨CS,hCS⟩:∃CS,S.extract k (k+1)=CS:=⟨_,rfl⟩;have hCz:CS.size=1:=by rw[←hCS,hcut];rfl
    rw[hCS]at hcat;rw[hLS]at hc;have M1:=fun(W' :World) (hW:Keeps wr W' [])=>((hr.keeps hW).cell m).trans hc
    have HG:=zh (And.intro hr (And.intro hgB (And.intro hcat (And.intro hml hln))));clear hr hgB hc hX hLS hcut hcat hXl hml hln
    go_upto_region 7 with fail
    have hw1:IntKind.i64.wrap (m:Int)=m:=IntWalk.i64_in _ (by omega);have hw2:IntKind.i64.wrap ((k:Int)+1)=k+1:=IntWalk.i64_in _ (by omega);have hw3:((k:Int)+1).toNat=k+1:=by omega
    have hw4:(k:Int)+1≤s.length:=by omega
    have hw5:(k:Int)≤k+1:=by omega
    have hw6:(0:Int)≤k+1:=by omega
    have hw7:(m:Int) < m+1:=by omega
    have hw8:¬9223372036854775807 < LS.size+1:=by omega
    refine wp_region_tail KeepsAll _ 16 (by kernel_rfl) rfl (by kernel_rfl) (fun _=>Keeps.refl _ _) (fun _ _ _ h k=>h.trans k (by simp)) (Keeps.drew _) ?_;simp only[zts,ztz,zds,zdz]
    iterate 9
     refine ls ?_;simp only[addEnt]
    apply loose_is
    ·intro W vals hW hkn
     simp only[knows]at hkn
     try simp only[and_true]at hkn
     clear hkn;have m1:=M1 W hW;refine⟨?_⟩;simp only[fill];go_simp
     first | exact⟨Keeps.refl _ _,rfl⟩ | exact⟨Keeps.alloc _ _,rfl⟩
    iterate 6
     simp only[addEnt];refine ls ?_
    simp only[addEnt];refine loose_nil (fun W vals hW hkn=> ?_);simp only[knowsAll]at hkn
    try simp only[and_true]at hkn
    simp only[fill,Act.put,zsa,zsc,zsz];clear hkn;have hr:=HG.out.1.keeps hW;have d0:=M1 W hW;have g0:=hr.frozen m;have HW:=zh (show Keeps wr W []from hW);clear hr hW M1
    go_wp2_with fail
    obtain⟨g',cur',e1,-,hgB,hr,hc,ho⟩:=OwnN.one (q:=fun a=> .string ⟨a.toArray⟩) (fun _=>rfl) (HR.out.o.keeps HW.out) HG.out.2.2.2.1;injection e1 with e1
    injection e1 with e1
    subst e1;have ho:=ho (X++ [a]);rw[←HG.out.2.2.1]at ho;exact⟨⟨k+1,m,c,_,_,by omega,by go_num,rfl,by omega,zh ⟨HL.out,ho,(HR.out.k.then_ HW.out).trans (Keeps.setCell _ _ _) fun x hx hlt=>by
     simp at hx;omega⟩⟩,by simp[intOf];omega⟩
  ·obtain rfl:k=s.length:=by omega
   have HE:=zh (show tLev s=l by rw[←HR.out.e,List.take_length])
   go_wp2_with fail
   go_ret;have:=HR.out.o.lies1;exact⟨A,c,by rw[HE.out,←this.1];rfl,by rw[HE.out];exact OwnN.cap HR.out.o,by rw[HE.out];exact this.2,HR.out.k⟩

theorem tOks_at (L:List (List UInt8)):tOks L=true↔∀j (h:j < L.length),tOk L[j] (j+1==L.length)=true:=by
 rw[tOks_seq,List.all_eq_true]
 constructor
 ·intro h j hj
  have:=h ((tSeq L)[j]'(by rw[tSeq_len];exact hj)) (List.getElem_mem _)
  rwa [tSeq_get hj]at this
 ·intro h x hx
  obtain⟨j,hj,rfl⟩:=List.mem_iff_getElem.1 hx;rw[tSeq_len]at hj;rw[tSeq_get hj];exact h j hj
set_option maxRecDepth 100000 in
set_option maxHeartbeats 2000000 in
theorem rFilter_any (w:World)(s:List UInt8)(hs:s.length≤60000):Calls Tryz.prog 28 #[.string ⟨s.toArray⟩] w (TruePost w (tFilter s)):=by
 obtain⟨S,hS⟩:∃S:ByteArray,(⟨s.toArray⟩:ByteArray)=S:=⟨_,rfl⟩;have HS:=zh (show∀w:World,(Calls Tryz.prog 93 #[.string S] w fun e w' =>e= .returned (.bool (tSaid s))∧Keeps w w' [])∧Calls Tryz.prog 95 #[.string S] w (LvPost w s)from fun w=>by
  rw[←hS];exact⟨rSaid_any w s hs,rLevels_any w s hs⟩)
 rw[hS];clear hS
 go_enter Tryz.func28,Tryz.ntmps28
 go_wp2_with fail
 refine(HS.out _).1.mono ?_;rintro e w1 ⟨rfl,hk⟩;have HK:=zh hk;clear hk
 cases hg:tSaid s with
 | false=>
  have HT:=zh (show tFilter s=false by unfold tFilter;rw[hg];rfl);clear hg
  go_wp2_with fail
  go_ret;exact⟨by rw[HT.out];rfl,HK.out⟩
 | true=>
  have HT:=zh (show tFilter s=tOks (tLev s)by unfold tFilter;rw[hg];rfl);clear hg
  go_wp2_with fail
  refine(HS.out _).2.mono ?_;rintro e w2 ⟨A,c,rfl,-,hL,hk⟩;have HK2:=zh (HK.out.then_ hk);have HB:=zh (And.intro (fun y (h:y∈tLev s)=>tLev_size h) (tLev_len s));have hn:(tLev s).length≤60001:=by have:=tLev_len s;omega
  generalize tLev s=l at*
  have HL:=zh hL;clear hk hL HK
  go_wp2_with fail
  go_loop [4] (fun i=>∃k:Nat,k≤l.length∧i= .int .i64 k∧Hid (∀j (h:j < l.length),j < k→tOk l[j] (j+1==l.length)=true)) (fun i=>l.length - (intOf i).toNat)
  case atStart=>exact⟨0,by omega,rfl,zh fun j h h2=>by omega⟩
  case round=>
   obtain⟨k,hk,rfl,HR⟩:=hrel
   by_cases hlt:k < l.length
   ·obtain⟨g,o,rfl,hb,hcx⟩:=HL.out.at_ (k:=k) (by simpa using hlt)
    rw[List.getElem_map]at hcx;obtain⟨y,hy⟩:∃y,l[k]=y:=⟨_,rfl⟩;have HN:=zh (show tOk y (k+1==l.length)=true→∀j (h:j < l.length),j < k+1→tOk l[j] (j+1==l.length)=true from fun hq j h h2=>by
     rcases Nat.lt_or_ge j k with g | g
     ·exact HR.out j h g
     ·obtain rfl:j=k:=by omega
      rw[hy];exact hq)
    have HF:=zh (show tOk y (k+1==l.length)=false→tFilter s=false from fun hq=>by
     rw[HT.out,←Bool.not_eq_true,tOks_at];intro h;have:=h k hlt;rw[hy,hq]at this
     cases this)
    have hyl:y.length≤60000:=by have:=HB.out.1 y (by rw[←hy];exact List.getElem_mem hlt);omega
    rw[hy]at hcx;obtain⟨Y,hY⟩:∃Y:ByteArray,(⟨y.toArray⟩:ByteArray)=Y:=⟨_,rfl⟩;have HG:=zh (show Calls Tryz.prog 94 #[.string Y] w2 fun e w' =>e= .returned (.int .i64 (tSignN y:Nat))∧w2=w' by
     rw[←hY];exact rSigns_any w2 y hyl)
    have eY:Y.toList=y:=by rw[←hY,Lib.toList_data]
    rw[hY]at hcx;clear hy hb
    go_wp2_with fail
    refine HG.out.mono ?_;rintro e w3 ⟨rfl,rfl⟩
    cases hsg:tSign y with
    | false=>
     have h0:=(tSignN_zero y).2 hsg;have HO:=zh (show tOk y (k+1==l.length)=true by unfold tOk;rw[hsg];simp);rw[h0];clear h0 hsg eY hY
     go_wp2_with fail
     exact⟨⟨k+1,by omega,by go_num,zh (HN.out HO.out)⟩,by simp[intOf];omega⟩
    | true=>
     have hpos:0 < tSignN y:=by
      rcases Nat.eq_zero_or_pos (tSignN y)with h | h
      ·rw[(tSignN_zero y).1 h]at hsg;cases hsg
      ·exact h
     obtain⟨q,hq⟩:∃q,tSignN y=q:=⟨_,rfl⟩;rw[hq]at hpos ⊢
     have HO:=zh (show tOk y (k+1==l.length)=(y== [43] || (y== [35] && (k+1==l.length)))by unfold tOk;rw[hsg];simp);clear hq hsg
     by_cases h43:y= [43]
     ·have e43:(Y.toList== [43])=true:=by rw[eY,h43];rfl
      have HP:=zh (HN.out (by rw[HO.out,h43];rfl));clear h43 eY hY
      go_wp2_with fail
      exact⟨⟨k+1,by omega,by go_num,HP⟩,by simp[intOf];omega⟩
     ·have e43:(Y.toList== [43])=false:=by rw[eY];simpa using h43
      have n43:(y== [43])=false:=by simpa using h43
      by_cases h35:y= [35]
      ·have e35:(Y.toList== [35])=true:=by rw[eY,h35];rfl
       by_cases hla:k+1=l.length
       ·have HP:=zh (HN.out (by rw[HO.out,h35,hla];simp))
        have hkl:((k:Int)==l.length - 1)=true:=by rw[beq_iff_eq];omega
        clear h35 eY hY h43 n43
        go_wp2_with fail
        exact⟨⟨k+1,by omega,by go_num,HP⟩,by simp[intOf];omega⟩
       ·have HP:=zh (HF.out (by rw[HO.out,h35];simpa using hla))
        have hkl:((k:Int)==l.length - 1)=false:=by rw[beq_eq_false_iff_ne];omega
        clear h35 eY hY h43 n43
        go_wp2_with fail
        go_ret;exact⟨by rw[HP.out];rfl,HK2.out⟩
      ·have e35:(Y.toList== [35])=false:=by rw[eY];simpa using h35
       have HP:=zh (HF.out (by rw[HO.out,n43,show(y== [35])=false by simpa using h35];rfl));clear h35 eY hY h43 n43
       go_wp2_with fail
       go_ret;exact⟨by rw[HP.out];rfl,HK2.out⟩
   ·obtain rfl:k=l.length:=by omega
    have HP:=zh (show tFilter s=true by rw[HT.out,tOks_at];exact fun j h=>HR.out j h h)
    go_wp2_with fail
    go_ret;exact⟨by rw[HP.out];rfl,HK2.out⟩
end Go.Proofs.YtahbikfbjenfpaaGreatDoor
