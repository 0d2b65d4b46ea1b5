/- Walks over package wire (layer 3): a number read. Walks over package wire (layer 3): a writer. Walks over package wire (layer 3): a number written; the bytes told. Walks over package wire (layer 3): a text and a truth written. -/
import Derived.Test.YtahbikfbjenfpaaGreatDoorPa20
import Derived.Test.YtahbikfbjenfpaaGreatDoorPa0
import Derived.Test.YtahbikfbjenfpaaGreatDoorPa3
import Derived.Lib.AppendStr

namespace Go.Proofs.YtahbikfbjenfpaaGreatDoor
open Go.RowKit

def withinB (n a b:Int):Bool:=decide (a≤n) && decide (n≤b)

set_option maxRecDepth 100000 in
set_option maxHeartbeats 400000 in
theorem wide_any (n:Int)(w:World):
  Calls Tryz.prog 105 #[.int .i64 n] w fun e w' =>e= .returned (.bool (withinB n 1 8))∧w=w' :=by
 by_cases h:1≤n <;> by_cases h2:n≤8
 all_goals
  go_enter Tryz.func105,Tryz.ntmps105
  go_wp2
  go_ret;exact⟨by simp[withinB,h,h2],rfl⟩

set_option maxRecDepth 100000 in
set_option maxHeartbeats 2000000 in
theorem rdNumber_any (w:World)(base r k:Nat)(l:List UInt8)(h:Rd w base r l)(hk1:1≤k)(hk8:k≤8)(hkl:k≤l.length):
  Calls Tryz.prog 108 #[.pointer (some ⟨r,0,none⟩),.int .i64 k] w fun e w' =>
   e= .returned (.tuple #[.int .u64 (beN (l.take k):Nat),.int .i64 0])∧Rd w' base r (l.drop k)∧Keeps w w' [r]:=by
 obtain⟨A,c,hr,hbr,hc,hnil,hcm,hL,had⟩:=h;have hlt:=hr.lt;have HR:=zh hr;have HL:=zh (And.intro hL (And.intro hnil had));clear hr hL hnil had;have hw:withinB (k:Int) 1 8=true:=by simp[withinB];omega
 go_enter Tryz.func108,Tryz.ntmps108
 go_wp2_with fail
 refine(rdNone_any _ _ _ HR.out).mono ?_;rintro e w1 ⟨rfl,rfl⟩
 go_wp2_with fail
 refine(wide_any _ _).mono ?_;rintro e w1 ⟨rfl,rfl⟩;rw[hw];clear hw
 go_wp2_with fail
 refine(rdTake_any _ _).mono ?_;rintro e w1 ⟨rfl,rfl⟩
 go_wp2_with fail
 refine(rdTake1_any _ r w.heap.size k l.length c A (HR.out.alloc _) (by simp[World.cell?_alloc_new]) hkl hc hcm).mono ?_;rintro e w2 ⟨rfl,hw2⟩;have hk2:Keeps w w2 [r]:=by
  subst hw2;exact(((Keeps.alloc w _).weaken (T:= [r]) (by simp)).trans (Keeps.setCell _ ⟨r,0,none⟩ _) (by simp)).trans (Keeps.drew _) (by simp)
 have hr2:Row w2 r 130 #[.slice (if c=k then A else A.map (·.add k)) (l.length - k) (c - k),.bool true]:=by
  subst hw2;exact((HR.out.alloc _).store 0 _)
 have hL2:Lies w2 w.heap.size A (l.map byteV):=HL.out.1.keep' hk2 (Nat.le_refl _) (fun b o e hm=>by simp at hm;exact absurd hm (Nat.ne_of_lt (HL.out.2.2 _ e).2));have H2:=zh (And.intro hk2 (And.intro hr2 hL2));clear hk2 hr2 hL2 hw2
 go_wp2
 go_loop [8,9,27] (fun t _ i=>∃j:Nat,j≤k∧i= .int .i64 j∧t= .int .u64 (beN (l.take j):Nat)) (fun _ _ i=>k - (intOf i).toNat)
 case atStart=>exact⟨0,by omega,rfl,rfl⟩
 case round=>
  obtain⟨j,hj,rfl,rfl⟩:=hrel
  by_cases hjk:j < k
  ·have hjl:j < l.length:=by omega
   obtain⟨b,o,rfl,hb,hcx⟩:=H2.out.2.2.at_ (k:=j) (by simpa using hjl);rw[byteV_get l hjl]at hcx;have hsucc:beN (l.take (j+1))=beN (l.take j)*256+l[j].toNat:=by rw[List.take_succ_eq_append_getElem hjl,beN_snoc]
   have hn:beN (l.take j) < 72057594037927936:=by
    have h1:=beN_lt (l.take j);have h2:(l.take j).length≤7:=by rw[List.length_take];omega
    have h3:256^(l.take j).length≤256^7:=Nat.pow_le_pow_right (by omega) h2;have h4:(256:Nat)^7=72057594037927936:=by decide
    omega
   have hx:l[j].toNat < 256:=l[j].toNat_lt
   generalize l[j].toNat=x at*
   generalize beN (l.take j)=M at*
   have HS:=zh hsucc;clear hsucc;have HB:=zh (be_step M x hn hx)
   go_wp2
   exact⟨⟨j+1,by omega,by go_num,by rw[HB.out,HS.out]⟩,by simp[intOf];omega⟩
  ·obtain rfl:j=k:=by omega
   go_wp2
   go_ret2
   refine⟨rfl, ?_,H2.out.1⟩;have hal:(if c=j then A else A.map (·.add j))=none→c - j=0:=by
    intro hn
    split at hn
    ·omega
    ·have:A=none:=by simpa using hn
     have:=HL.out.2.1 this;omega
   have hll:(l.drop j).length=l.length - j:=by simp
   refine⟨_,c - j,by rw[hll];exact H2.out.2.1,hbr,by rw[hll];omega,hal,by omega, ?_, ?_⟩
   ·have:=H2.out.2.2.cut (k:=j) (cap:=c) (by simpa using hc)
    rw[List.map_drop];exact this.mono H2.out.1.size
   ·intro ad had
    split at had
    ·exact HL.out.2.2 ad had
    ·cases A with
     | none=>cases had
     | some a0=>
      simp only[Option.map_some,Option.some.injEq]at had;subst had;have:=HL.out.2.2 a0 rfl;have hblk:(a0.add j).block=a0.block:=by unfold Addr.add;split <;> rfl
      rw[hblk];exact this

/-- A writer at p that holds the value v, which reads as the bytes l (in blocks from base on). -/
def WrB (w:World)(base p:Nat)(v:Value)(l:List UInt8):Prop:=
 Row w p 120 #[v,.bool true]∧Owned w base v l

theorem WrB.ne {w:World}{base p:Nat}{v:Value}{l:List UInt8}(h:WrB w base p v l):v.ownBlock≠some p:=own_ne_row h.2 h.1 (by decide)
theorem WrB.keep {w w' :World}{base p:Nat}{v:Value}{l:List UInt8}{S:List Nat}(h:WrB w base p v l)(hk:Keeps w w' S)(hp:p∉S)(hv:∀g,v.ownBlock=some g→g∉S):WrB w' base p v l:=
 ⟨h.1.keep hk hp,own_keep h.2 hk hv⟩

set_option maxRecDepth 100000 in
set_option maxHeartbeats 400000 in
theorem newWriter_any (w:World):
  Calls Tryz.prog 22 #[] w fun e w' =>e= .returned (.pointer (some ⟨w.heap.size,0,none⟩))∧WrB w' w.heap.size w.heap.size (.slice none 0 0) []∧Keeps w w' []:=by
 go_enter Tryz.func22,Tryz.ntmps22
 go_wp2
 go_ret;exact⟨rfl,⟨Row.new _ _ _,World.ownsRow_nil _ _ _ _⟩,Keeps.alloc _ _⟩

set_option maxRecDepth 100000 in
set_option maxHeartbeats 400000 in
theorem wrNone_any (w:World)(r:Nat)(v:Value)(h:Row w r 120 #[v,.bool true]):
  Calls Tryz.prog 89 #[.pointer (some ⟨r,0,none⟩)] w fun e w' =>e= .returned (.bool false)∧w=w' :=by
 have h1:=h.cell 1;have H:=zh h;clear h
 go_enter Tryz.func89,Tryz.ntmps89
 go_wp2
 go_ret;exact⟨rfl,rfl⟩

set_option maxRecDepth 100000 in
set_option maxHeartbeats 1000000 in
theorem wrPut_any (w:World)(base p:Nat)(v u:Value)(l b:List UInt8)(h:WrB w base p v l)(hb:Bytes w w.heap.size u b)(hlen:l.length+b.length≤65536)(hbase:base≤w.heap.size):
  Calls Tryz.prog 106 #[.pointer (some ⟨p,0,none⟩),u] w fun e w' =>
   e= .returned (.int .i64 0)∧∃v',WrB w' base p v' (l++b)∧Keeps w w' (p::v.ownBlock.toList)∧(v'.ownBlock=v.ownBlock∨∀g,v'.ownBlock=some g→w.heap.size≤g):=by
 have hne:=h.ne;obtain⟨hr,ho⟩:=h;obtain⟨i0,hi,hz0,hz1,hz2⟩:=info_parts infoByte;have hlt:=hr.lt;have h0:=hr.cell 0;obtain⟨A,c,rfl,hc,hcm,hnil,hL⟩:=ho.parts;obtain⟨A2,c2,rfl,hc2,hnil2,hcm2,hlen2,hL2⟩:=hb;have H:=zh (And.intro hr (And.intro ho (And.intro hnil (And.intro hL (And.intro hnil2 hL2)))));have HNE:=zh hne;clear hr ho hnil hL hnil2 hL2 hne
 go_enter Tryz.func106,Tryz.ntmps106
 go_wp2_with (at_builtin;refine wpList_append_lies' _ rfl (.tmp 20) (.tmp 21) 32 rfl base 5 i0 (.int .u8 0) 1 undBytes hi hz0 hz1 hz2 rfl (.slice A l.length c) l.length (l.map byteV) rfl H.out.2.1 w.heap.size A2 b.length c2 (b.map byteV) rfl (by simp) H.out.2.2.2.2.2 (byteV_one b) (by simp[maxLen];omega) (by omega) hbase ?_;intro v' w1 hown hg hb;obtain⟨A3,c3,rfl,h3,h4⟩:=own_slice hown;have hk:=Keeps.of_grown hg;have hr1:=H.out.1.keep hk (fun hm=>HNE.out (by simpa using hm));have hc1:=hr1.cell 0;have hf1:=hr1.frozen 0;have HO:=zh (And.intro hown (And.intro hk (And.intro hr1 hb)));clear hown hg hb hk hr1)
 go_wp2
 go_ret;obtain⟨hown,hk,hr1,hb⟩:=HO.out;have hne3:=own_ne_row hown hr1 (by decide);refine⟨rfl,.slice A3 (l.length+b.length) c3,⟨hr1.store 0 _, ?_⟩,(hk.weaken (T:=p::(Value.slice A l.length c).ownBlock.toList) (fun x hx _=>List.mem_cons_of_mem _ hx)).trans (Keeps.setCell _ _ _) (fun x hx _=>by simp at hx;subst hx;exact List.mem_cons_self), ?_⟩
 ·have h5:(l++b).length=l.length+b.length:=by simp
  unfold Owned;rw[h5,List.map_append];exact own_keep hown (Keeps.setCell _ _ _) (fun g hg hm=>hne3 (by simp at hm;subst hm;exact hg))
 ·rcases hb with hb | hb
  ·exact .inl hb
  ·exact .inr fun g hg=>by rw[hb]at hg;injection hg with hg;omega



theorem lies_oneW (w:World)(x:Value)(t:TypeId):Lies (w.alloc (.cells #[x] t)) (w.heap.size+1) (some ⟨w.heap.size,0,none⟩) [x]:=fun _=>by
 refine⟨w.heap.size,0,rfl,by omega,fun i u hu=> ?_⟩;have hi:i=0:=by
  rcases i with _ | i
  ·rfl
  ·simp at hu
 subst hi;have:=(Row.new w t #[x]).cell 0;simp at hu;subst hu;simp[this]

set_option maxRecDepth 100000 in
set_option maxHeartbeats 1000000 in
theorem laid_any (w:World)(n k:Nat)(hk1:1≤k)(hk8:k≤8)(_hn:n < 18446744073709551616):
  Calls Tryz.prog 107 #[.slice none 0 0,.int .u64 n,.int .i64 k] w fun e w' =>
   ∃v,e= .returned v∧Owned w' w.heap.size v (toBE k n)∧Keeps w w' []:=by
 obtain⟨i0,hi,hz0,hz1,hz2⟩:=info_parts infoByte
 go_enter Tryz.func107,Tryz.ntmps107
 go_wp2
 go_loopw [0,7] (fun v i wr=>∃j:Nat,j≤k∧i= .int .i64 ((k:Int) - 1 - j)∧Owned wr w.heap.size v (digs n k j)∧Keeps w wr []) (fun _ i _=>((intOf i)+1).toNat)
 case atStart=>exact⟨0,by omega,by simp,World.ownsRow_nil _ _ _ _,Keeps.refl _ _⟩
 case round=>
  obtain⟨j,hj,rfl,ho,hkp⟩:=hrel
  by_cases hjk:j < k
  ·obtain⟨A,c,rfl,hc,hcm,hnil,hL⟩:=ho.parts
   have HO:=zh (And.intro ho (And.intro hkp hnil));have HL:=zh hL;clear ho hkp hnil hL;have hd:decide ((0:Int)≤(k:Int) - 1 - j)=true:=by simp;omega
   have hsz:=HO.out.2.1.size;have hl:=digs_length n k j;have HV:=zh (digit_val n (k - 1 - j))
   go_wp2_with (at_builtin;refine wpList_append_lies' _ rfl (.tmp 14) (.tmp 20) 32 rfl w.heap.size 5 i0 (.int .u8 0) 1 undBytes hi hz0 hz1 hz2 rfl (.slice A (digs n k j).length c) (digs n k j).length ((digs n k j).map byteV) rfl (HO.out.1.alloc _) (wr.heap.size+1) (some ⟨wr.heap.size,0,none⟩) 1 1 [.int .u8 ((n:Int) / 2^(8*(k - 1 - j)) % 256)] rfl rfl (lies_oneW _ _ _) (by simp[Value.oneCell']) (by simp[maxLen];omega) (by omega) (by simp;omega) ?_;intro v' w1 hown hg hb;have HO2:=zh (And.intro hown (And.intro hg hb));clear hown hg hb)
   refine⟨⟨j+1,by omega,by simp;omega, ?_, ?_⟩,by simp[intOf];omega⟩
   ·have h1:=HO2.out.1
    rw[HV.out]at h1;have h5:(digs n k (j+1)).length=(digs n k j).length+1:=by simp[digs_length]
    unfold Owned;rw[h5,digs,List.map_append];exact h1
   ·exact(HO.out.2.1.trans (Keeps.alloc _ _) (by simp)).trans (Keeps.of_grown HO2.out.2.1) (fun x hx hlt=>by
     have:=(HO.out.1.lt x (by simpa using hx)).1;omega)
  ·obtain rfl:j=k:=by omega
   have HO:=zh (And.intro ho hkp);clear ho hkp;have hd:decide ((0:Int)≤(j:Int) - 1 - j)=false:=by simp;omega
   go_wp2
   go_ret;have:=HO.out.1;rw[digs_all]at this;exact⟨_,rfl,this,HO.out.2⟩

theorem owned_lt {w:World}{base:Nat}{v:Value}{l:List UInt8}(h:Owned w base v l)(g:Nat)(hg:v.ownBlock=some g):base≤g∧g < w.heap.size:=h.lt g hg

set_option maxRecDepth 100000 in
set_option maxHeartbeats 1000000 in
theorem wrNumber_any (w:World)(base p:Nat)(v:Value)(l:List UInt8)(n k:Nat)(h:WrB w base p v l)(hk1:1≤k)(hk8:k≤8)(hn:n < 256^k)(hlen:l.length+k≤65536)(hbase:base≤w.heap.size):
  Calls Tryz.prog 56 #[.pointer (some ⟨p,0,none⟩),.int .u64 n,.int .i64 k] w fun e w' =>
   e= .returned (.int .i64 0)∧∃v',WrB w' base p v' (l++toBE k n)∧Keeps w w' (p::v.ownBlock.toList)∧(v'.ownBlock=v.ownBlock∨∀g,v'.ownBlock=some g→w.heap.size≤g):=by
 have hw:withinB (k:Int) 1 8=true:=by simp[withinB];omega
 have hn64:n < 18446744073709551616:=by
  have h3:256^k≤256^8:=Nat.pow_le_pow_right (by omega) hk8;have h4:(256:Nat)^8=18446744073709551616:=by decide
  omega
 have hsh:decide ((0:Int) < (n:Int) / 2^(8*k))=false:=by
  have h2:(256:Nat)^k=2^(8*k):=by rw[Nat.pow_mul]
  rw[h2]at hn;have h1:n / 2^(8*k)=0:=Nat.div_eq_of_lt hn;have h3:(n:Int) / 2^(8*k)=((n / 2^(8*k):Nat):Int):=by rw[Int.natCast_ediv,Int.natCast_pow];rfl
  rw[h3,h1];rfl
 have H:=zh h;clear h hn;have hplt:=H.out.1.lt
 by_cases h8:k < 8
 all_goals
  have hd8:=h8
  go_enter Tryz.func56,Tryz.ntmps56
  go_wp2_with fail
  go_step3
  go_wp2_with fail
  refine(wrNone_any _ _ _ H.out.1).mono ?_;rintro e w1 ⟨rfl,rfl⟩
  go_wp2_with fail
  refine(wide_any _ _).mono ?_;rintro e w1 ⟨rfl,rfl⟩;rw[hw]
  go_wp2_with fail
  refine(laid_any _ n k hk1 hk8 hn64).mono ?_;rintro e w1 ⟨u,rfl,ho,hk⟩;have HO:=zh (And.intro ho hk);clear ho hk
  go_wp2_with fail
  have hW1:WrB w1 base p v l:=H.out.keep HO.out.2 (by simp) (by simp);have hlt:=HO.out.1.lt;refine(wrPut_any w1 base p v u l (toBE k n) hW1 (HO.out.1.bytes (by rw[toBE_length];omega)) (by rw[toBE_length];exact hlen) (Nat.le_trans hbase HO.out.2.size)).mono ?_;rintro e w2 ⟨rfl,v',hw2,hk2,hb2⟩;have HF:=zh (And.intro hw2 (And.intro hk2 hb2));clear hw2 hk2 hb2 hW1 hlt
  go_wp2
  rw[Exit.noGoto_ret];go_ret;obtain⟨hw2,hk2,hb2⟩:=HF.out;refine⟨rfl,v',hw2,(HO.out.2.weaken (T:=p::v.ownBlock.toList) (by simp)).trans hk2 (fun x hx _=>hx), ?_⟩
  rcases hb2 with hb2 | hb2
  ·exact .inl hb2
  ·exact .inr fun g hg=>Nat.le_trans HO.out.2.size (hb2 g hg)

set_option maxRecDepth 100000 in
set_option maxHeartbeats 1000000 in
theorem wrBytes_any (w:World)(base p:Nat)(v:Value)(l:List UInt8)(h:WrB w base p v l)(hlen:l.length≤140737488351232):
  Calls Tryz.prog 23 #[.pointer (some ⟨p,0,none⟩)] w fun e w' =>∃v',e= .returned v' ∧Owned w' w.heap.size v' l∧Keeps w w' []:=by
 have h0:=h.1.cell 0;have hB:=h.2.bytes hlen;obtain⟨A,c,rfl,hc,hcm,hnil,hL⟩:=h.2.parts;have H:=zh h;have HB:=zh hB;clear h hB hnil hL
 go_enter Tryz.func23,Tryz.ntmps23
 go_wp2_with fail
 refine(wrNone_any _ _ _ H.out.1).mono ?_;rintro e w1 ⟨rfl,rfl⟩
 go_wp2_with fail
 refine(clone_any _ _ _ HB.out).mono ?_;rintro e w1 ⟨v',rfl,ho,hk⟩;have HO:=zh (And.intro ho hk);clear ho hk
 go_wp2
 go_ret;exact⟨v',rfl,HO.out.1,HO.out.2⟩

theorem strCells_str (s:List UInt8):Lib.strCells ⟨s.toArray⟩=s.map byteV:=by simp[Lib.strCells,byteV]
theorem size_str (s:List UInt8):(⟨s.toArray⟩:ByteArray).size=s.length:=by simp[ByteArray.size]

/-- append of a text's bytes onto bytes of the call's own. -/
theorem wpList_append_str {ops:Array Oper}{rest:List Oper}{o:Oper}{a:Act}{w:World}{Q:Exit→Act→World→Prop}(hgd:o.guard=none)(sl x:Operand)
  (ho:o.op= .call {callee:= .builtin .append,args:= #[sl,x],argTypes:= #[32,9]})
  (base:Nat) (v:Value) (l s:List UInt8) (hs:a.eval sl=v) (hown:Owned w base v l) (hx:a.eval x=strV s) (hlen:l.length+s.length≤140737488351232) (hbase:base≤w.heap.size)
  (h:∀v' w',Hid (Owned w' base v' (l++s)∧Keeps w w' v.ownBlock.toList)→wpList Tryz.prog ops Q rest (a.put o.dst v') w'):wpList Tryz.prog ops Q (o::rest) a w:=by
 obtain⟨i0,hi,hz0,hz1,hz2⟩:=info_parts infoByte;refine Lib.wpList_append_own_string w hgd sl x 32 9 ho base 5 i0 undBytes undString hi hz0 hz1 hz2 v l.length (l.map byteV) hs hown ⟨s.toArray⟩ hx (by rw[size_str];simp[maxLen];omega) (by rw[size_str];omega) hbase ?_;intro v' w' h1 h2 _;refine h v' w' (zh ⟨?_,Keeps.of_grown h2⟩);unfold Owned;rw[size_str,strCells_str]at h1;rw[List.length_append,List.map_append];exact h1

set_option maxRecDepth 100000 in
set_option maxHeartbeats 1000000 in
theorem wrText_any (w:World)(base p:Nat)(v:Value)(l s:List UInt8)(h:WrB w base p v l)(hs:s.length≤65535)(hlen:l.length+(2+s.length)≤65536)(hbase:base≤w.heap.size):
  Calls Tryz.prog 67 #[.pointer (some ⟨p,0,none⟩),strV s] w fun e w' =>
   e= .returned (.int .i64 0)∧∃v',WrB w' base p v' (l++(toBE 2 s.length++s))∧Keeps w w' (p::v.ownBlock.toList)∧(v'.ownBlock=v.ownBlock∨∀g,v'.ownBlock=some g→w.heap.size≤g):=by
 have hsz:(⟨s.toArray⟩:ByteArray).size=s.length:=size_str s;have h16:decide ((65535:Int) < (s.length:Int))=false:=by simp;omega
 have hwr:IntKind.u64.wrap (s.length:Int)=(s.length:Int):=IntWalk.u64_in _ ⟨by omega,by omega⟩;have H:=zh h;have HS:=zh hs;have HL:=zh hlen;clear h hs hlen;have hplt:=H.out.1.lt;unfold strV
 go_enter Tryz.func67,Tryz.ntmps67
 go_wp2_with fail
 refine(wrNone_any _ _ _ H.out.1).mono ?_;rintro e w1 ⟨rfl,rfl⟩
 go_wp2_with fail
 refine(laid_any _ s.length 2 (by omega) (by omega) (by have:=HS.out;omega)).mono ?_;rintro e w1 ⟨u,rfl,ho,hk⟩;have HO:=zh (And.intro ho hk);clear ho hk
 go_wp2_with (at_builtin;refine wpList_append_str rfl (.tmp 16) (.tmp 17) rfl w.heap.size u (toBE 2 s.length) s rfl HO.out.1 rfl (by have:=HS.out;rw[toBE_length];omega) HO.out.2.size ?_;intro u2 w2 HA)
 have hW:WrB w2 base p v l:=(H.out.keep HO.out.2 (by simp) (by simp)).keep HA.out.2 (fun hm=>by
   have:=HO.out.1.lt p (by simpa using hm);omega) (fun g hg hm=>by
   have h1:=HO.out.1.lt g (by simpa using hm);have h2:=H.out.2.lt g hg;omega)
 have hk12:Keeps w w2 []:=HO.out.2.trans HA.out.2 (fun x hx hlt=>by
   have:=HO.out.1.lt x (by simpa using hx);omega)
 have HW:=zh (And.intro hW hk12);clear hW hk12
 go_wp2_with fail
 refine(wrPut_any w2 base p v u2 l (toBE 2 s.length++s) HW.out.1 (HA.out.1.bytes (by have:=HS.out;simp[toBE_length];omega)) (by have:=HL.out;simp[toBE_length];omega) (Nat.le_trans hbase HW.out.2.size)).mono ?_;rintro e w3 ⟨rfl,v',hw2,hk2,hb2⟩;have HF:=zh (And.intro hw2 (And.intro hk2 hb2));clear hw2 hk2 hb2
 go_wp2
 go_ret;obtain⟨hw2,hk2,hb2⟩:=HF.out;refine⟨rfl,v',hw2,(HW.out.2.weaken (T:=p::v.ownBlock.toList) (by simp)).trans hk2 (fun x hx _=>hx), ?_⟩
 rcases hb2 with hb2 | hb2
 ·exact .inl hb2
 ·exact .inr fun g hg=>Nat.le_trans HW.out.2.size (hb2 g hg)

set_option maxRecDepth 100000 in
set_option maxHeartbeats 1000000 in
theorem wrTruth_any (w:World)(base p:Nat)(v:Value)(l:List UInt8)(b:Bool)(h:WrB w base p v l)(hlen:l.length+1≤65536)(hbase:base≤w.heap.size):
  Calls Tryz.prog 55 #[.pointer (some ⟨p,0,none⟩),.bool b] w fun e w' =>
   e= .returned (.int .i64 0)∧∃v',WrB w' base p v' (l++ [bif b then 1 else 0])∧Keeps w w' (p::v.ownBlock.toList)∧(v'.ownBlock=v.ownBlock∨∀g,v'.ownBlock=some g→w.heap.size≤g):=by
 have H:=zh h;clear h
 cases b
 ·go_enter Tryz.func55,Tryz.ntmps55
  go_wp2_with fail
  refine(wrNumber_any w base p v l 0 1 H.out (by omega) (by omega) (by omega) hlen hbase).mono ?_;rintro e w1 ⟨rfl,h1⟩;have H1:=zh h1;clear h1
  go_wp2
  go_ret;exact⟨rfl,H1.out⟩
 ·go_enter Tryz.func55,Tryz.ntmps55
  go_wp2_with fail
  refine(wrNumber_any w base p v l 1 1 H.out (by omega) (by omega) (by omega) hlen hbase).mono ?_;rintro e w1 ⟨rfl,h1⟩;have H1:=zh h1;clear h1
  go_wp2
  go_ret;exact⟨rfl,H1.out⟩
end Go.Proofs.YtahbikfbjenfpaaGreatDoor
