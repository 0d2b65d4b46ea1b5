/- Walks over package wire (layer 3): a number read. Walks over package wire (layer 3): a writer. Walks over package wire (layer 3): a number written; the bytes told. Walks over package wire (layer 3): a text and a truth written. -/
import Derived.Test.YtahbikfbjenfpaaGreatDoorPa20
import Derived.Test.YtahbikfbjenfpaaGreatDoorPa0
import Derived.Test.YtahbikfbjenfpaaGreatDoorPa3
import Derived.Lib.AppendStr
set_option maxHeartbeats 2000000
set_option maxRecDepth 100000
namespace Go.Proofs.YtahbikfbjenfpaaGreatDoor
open Tryz Go.RowKit

def lY (n a b:Int):Bool:=decide (a<=n) && decide (n<=b)

theorem uV (n:Int)(w:au):
  Calls prog 105 #[.int .i64 n] w λe w' =>e= .returned (.bool (lY n 1 8))/\w=w' :=by
 by_cases h:1<=n <;> by_cases h2:n<=8
 all_goals
  go_enter func105,ntmps105
  go_wp2
  go_ret;exact⟨by simp[lY,h,h2],rfl⟩

theorem yM (w:au)(base r k:Nat)(l:aG)(h:Rd w base r l)(hk1:1<=k)(pG:k<=8)(hkl:k<=l.length):
  Calls prog 108 #[.pointer (some ⟨r,0,none⟩),.int .i64 k] w λe w' =>
   e= .returned (.tuple #[.int .u64 (qw (l.take k):Nat),.int .i64 0])/\Rd w' base r (l.drop k)/\ae w w' [r]:=by
 obtain⟨A,c,hr,hbr,hc,hnil,hcm,hL,had⟩:=h;have hlt:=hr.lt;have HR:=zh hr;have HL:=zh (And.intro hL (And.intro hnil had));clear hr hL hnil had;have hw:lY (k:Int) 1 8=true:=by simp[lY];omega
 go_enter func108,ntmps108
 go_wp2_with fail
 refine(jG _ _ _ HR.o).mono ?_;rintro e w1 ⟨rfl,rfl⟩
 go_wp2_with fail
 refine(uV _ _).mono ?_;rintro e w1 ⟨rfl,rfl⟩;rw[hw];clear hw
 go_wp2_with fail
 refine(ld _ _).mono ?_;rintro e w1 ⟨rfl,rfl⟩
 go_wp2_with fail
 refine(oY _ r w.heap.size k l.length c A (HR.o.alloc _) (by simp[World.cell?_alloc_new]) hkl hc hcm).mono ?_;rintro e w2 ⟨rfl,hw2⟩;have hk2:ae w w2 [r]:=by
  subst hw2;exact(((ae.alloc w _).weaken (T:= [r]) (by simp)).trans (ae.setCell _ ⟨r,0,none⟩ _) (by simp)).trans (ae.drew _) (by simp)
 have hr2:Row w2 r 130 #[.slice (if c=k then A else A.map (·.add k)) (l.length - k) (c - k),.bool true]:=by
  subst hw2;exact((HR.o.alloc _).store 0 _)
 have wH:cG w2 w.heap.size A (l.map bq):=HL.o.1.yc hk2 (bE _) (λb o e hm=>by simp at hm;exact absurd hm (Nat.ne_of_lt (HL.o.2.2 _ e).2));have H2:=zh (And.intro hk2 (And.intro hr2 wH));clear hk2 hr2 wH hw2
 go_wp2
 go_loop [8,9,27] (λt _ i=>∃j:Nat,j<=k/\i= .int .i64 j/\t= .int .u64 (qw (l.take j):Nat)) (λ_ _ i=>k - (intOf i).toNat)
 case atStart=>exact⟨0,by omega,rfl,rfl⟩
 case round=>
  obtain⟨j,hj,rfl,rfl⟩:=hrel
  by_cases hjk:j < k
  ·have hjl:j < l.length:=by omega
   obtain⟨b,o,rfl,hb,hcx⟩:=H2.o.2.2.at_ (k:=j) (by simpa using hjl);rw[eW l hjl]at hcx;have Br:qw (l.take (j+1))=qw (l.take j)*256+l[j].toNat:=by rw[hO hjl,pN]
   have hn:qw (l.take j) < 72057594037927936:=by
    have h1:=DI (l.take j);have h2:(l.take j).length<=7:=by rw[dq];omega
    have h3:256^(l.take j).length<=256^7:=lQ (by omega) h2;have h4:(256:Nat)^7=72057594037927936:=by decide
    omega
   have hx:l[j].toNat < 256:=l[j].toNat_lt
   generalize l[j].toNat=x at*
   generalize qw (l.take j)=M at*
   have HS:=zh Br;clear Br;have HB:=zh (Kc M x hn hx)
   go_wp2
   exact⟨⟨j+1,by omega,by go_num,by rw[HB.o,HS.o]⟩,by simp[intOf];omega⟩
  ·obtain rfl:j=k:=by omega
   go_wp2
   go_ret2
   refine⟨rfl, ?_,H2.o.1⟩;have hal:(if c=j then A else A.map (·.add j))=none->c - j=0:=by
    intro hn
    split at hn
    ·omega
    ·have:A=none:=by simpa using hn
     have:=HL.o.2.1 this;omega
   have wY:(l.drop j).length=l.length - j:=by simp
   refine⟨_,c - j,by rw[wY];exact H2.o.2.1,hbr,by rw[wY];omega,hal,by omega, ?_, ?_⟩
   ·have:=H2.o.2.2.cut (k:=j) (cap:=c) (by simpa using hc)
    rw[List.map_drop];exact this.mono H2.o.1.size
   ·intro ad had
    split at had
    ·exact HL.o.2.2 ad had
    ·cases A with
     | none=>cases had
     | some a0=>
      simp only[tg,kY]at had;subst had;have:=HL.o.2.2 a0 rfl;have LU:(a0.add j).block=a0.block:=by unfold Addr.add;split <;> rfl
      rw[LU];exact this

/-- A writer at p that holds the value v, which reads as the bytes l (in blocks from base on). -/
def yn (w:au)(base p:Nat)(v:Value)(l:aG):Prop:=
 Row w p 120 #[v,.bool true]/\aS w base v l

theorem yn.ne {w:au}{base p:Nat}{v:Value}{l:aG}(h:yn w base p v l):v.ownBlock≠some p:=lr h.2 h.1 (by decide)
theorem yn.keep {w w' :au}{base p:Nat}{v:Value}{l:aG}{S:List Nat}(h:yn w base p v l)(hk:ae w w' S)(hp:p∉S)(hv:∀g,v.ownBlock=some g->g∉S):yn w' base p v l:=
 ⟨h.1.keep hk hp,aM h.2 hk hv⟩

theorem qG (w:au):
  Calls prog 22 #[] w λe w' =>e= .returned (.pointer (some ⟨w.heap.size,0,none⟩))/\yn w' w.heap.size w.heap.size aN []/\ae w w' []:=by
 go_enter func22,ntmps22
 go_wp2
 go_ret;exact⟨rfl,⟨Row.new _ _ _,xw _ _ _ _⟩,ae.alloc _ _⟩

theorem qM (w:au)(r:Nat)(v:Value)(h:Row w r 120 #[v,.bool true]):
  Calls prog 89 #[.pointer (some ⟨r,0,none⟩)] w λe w' =>e= .returned (.bool false)/\w=w' :=by
 have h1:=h.cell 1;have H:=zh h;clear h
 go_enter func89,ntmps89
 go_wp2
 go_ret;exact⟨rfl,rfl⟩

theorem xI (w:au)(base p:Nat)(v u:Value)(l b:aG)(h:yn w base p v l)(hb:Bytes w w.heap.size u b)(hlen:l.length+b.length<=65536)(hbase:base<=w.heap.size):
  Calls prog 106 #[.pointer (some ⟨p,0,none⟩),u] w λe w' =>
   e= .returned (.int .i64 0)/\∃v',yn w' base p v' (l++b)/\ae w w' (p::v.ownBlock.toList)/\(v'.ownBlock=v.ownBlock\/∀g,v'.ownBlock=some g->w.heap.size<=g):=by
 have hne:=h.ne;obtain⟨hr,ho⟩:=h;obtain⟨i0,hi,hz0,hz1,hz2⟩:=info_parts lB;have hlt:=hr.lt;have h0:=hr.cell 0;obtain⟨A,c,rfl,hc,hcm,hnil,hL⟩:=ho.parts;obtain⟨A2,c2,rfl,gO,qJ,hcm2,S6,wH⟩:=hb;have H:=zh (And.intro hr (And.intro ho (And.intro hnil (And.intro hL (And.intro qJ wH)))));have jt:=zh hne;clear hr ho hnil hL qJ wH hne
 go_enter func106,ntmps106
 go_wp2_with (at_builtin;refine iI _ rfl (.tmp 20) (.tmp 21) 32 rfl base 5 i0 (.int .u8 0) 1 fF hi hz0 hz1 hz2 rfl (.slice A l.length c) l.length (l.map bq) rfl H.o.2.1 w.heap.size A2 b.length c2 (b.map bq) rfl (by simp) H.o.2.2.2.2.2 (tM b) (by simp[maxLen];omega) (by omega) hbase ?_;intro v' w1 hown hg hb;obtain⟨A3,c3,rfl,h3,h4⟩:=ck hown;have hk:=ae.fY hg;have hr1:=H.o.1.keep hk (λhm=>jt.o (by simpa using hm));have hc1:=hr1.cell 0;have Wv:=hr1.frozen 0;have HO:=zh (And.intro hown (And.intro hk (And.intro hr1 hb)));clear hown hg hb hk hr1)
 go_wp2
 go_ret;obtain⟨hown,hk,hr1,hb⟩:=HO.o;have QZ:=lr hown hr1 (by decide);refine⟨rfl,.slice A3 (l.length+b.length) c3,⟨hr1.store 0 _, ?_⟩,(hk.weaken (T:=p::(Value.slice A l.length c).ownBlock.toList) (λx hx _=>List.mem_cons_of_mem _ hx)).trans (ae.setCell _ _ _) (λx hx _=>by simp at hx;subst hx;exact List.mem_cons_self), ?_⟩
 ·have h5:(l++b).length=l.length+b.length:=by simp
  unfold aS;rw[h5,List.map_append];exact aM hown (ae.setCell _ _ _) (λg hg hm=>QZ (by simp at hm;subst hm;exact hg))
 ·rcases hb with hb | hb
  ·exact .inl hb
  ·exact .inr λg hg=>by rw[hb]at hg;injection hg with hg;omega



theorem Fv (w:au)(x:Value)(t:TypeId):cG (w.alloc (.cells #[x] t)) (w.heap.size+1) (some ⟨w.heap.size,0,none⟩) [x]:=λ_=>by
 refine⟨w.heap.size,0,rfl,by omega,λi u hu=> ?_⟩;have hi:i=0:=by
  rcases i with _ | i
  ·rfl
  ·simp at hu
 subst hi;have:=(Row.new w t #[x]).cell 0;simp at hu;subst hu;simp[this]

theorem Bl (w:au)(n k:Nat)(hk1:1<=k)(pG:k<=8)(_hn:n < 18446744073709551616):
  Calls prog 107 #[.slice none 0 0,.int .u64 n,.int .i64 k] w λe w' =>
   ∃v,e= .returned v/\aS w' w.heap.size v (dZ k n)/\ae w w' []:=by
 obtain⟨i0,hi,hz0,hz1,hz2⟩:=info_parts lB
 go_enter func107,ntmps107
 go_wp2
 go_loopw [0,7] (λv i wr=>∃j:Nat,j<=k/\i= .int .i64 ((k:Int) - 1 - j)/\aS wr w.heap.size v (qv n k j)/\ae w wr []) (λ_ i _=>((intOf i)+1).toNat)
 case atStart=>exact⟨0,by omega,by simp,xw _ _ _ _,ae.refl _ _⟩
 case round=>
  obtain⟨j,hj,rfl,ho,hkp⟩:=hrel
  by_cases hjk:j < k
  ·obtain⟨A,c,rfl,hc,hcm,hnil,hL⟩:=ho.parts
   have HO:=zh (And.intro ho (And.intro hkp hnil));have HL:=zh hL;clear ho hkp hnil hL;have hd:decide ((0:Int)<=(k:Int) - 1 - j)=true:=by simp;omega
   have hsz:=HO.o.2.1.size;have hl:=uu n k j;have HV:=zh (FI n (k - 1 - j))
   go_wp2_with (at_builtin;refine iI _ rfl (.tmp 14) (.tmp 20) 32 rfl w.heap.size 5 i0 (.int .u8 0) 1 fF hi hz0 hz1 hz2 rfl (.slice A (qv n k j).length c) (qv n k j).length ((qv n k j).map bq) rfl (HO.o.1.alloc _) (wr.heap.size+1) (some ⟨wr.heap.size,0,none⟩) 1 1 [.int .u8 ((n:Int) / 2^(8*(k - 1 - j)) % 256)] rfl rfl (Fv _ _ _) (by simp[Value.oneCell']) (by simp[maxLen];omega) (by omega) (by simp;omega) ?_;intro v' w1 hown hg hb;have KZ:=zh (And.intro hown (And.intro hg hb));clear hown hg hb)
   refine⟨⟨j+1,by omega,by simp;omega, ?_, ?_⟩,by simp[intOf];omega⟩
   ·have h1:=KZ.o.1
    rw[HV.o]at h1;have h5:(qv n k (j+1)).length=(qv n k j).length+1:=by simp[uu]
    unfold aS;rw[h5,qv,List.map_append];exact h1
   ·exact(HO.o.2.1.trans (ae.alloc _ _) (by simp)).trans (ae.fY KZ.o.2.1) (λx hx hlt=>by
     have:=(HO.o.1.lt x (by simpa using hx)).1;omega)
  ·obtain rfl:j=k:=by omega
   have HO:=zh (And.intro ho hkp);clear ho hkp;have hd:decide ((0:Int)<=(j:Int) - 1 - j)=false:=by simp;omega
   go_wp2
   go_ret;have:=HO.o.1;rw[Ho]at this;exact⟨_,rfl,this,HO.o.2⟩

theorem dM {w:au}{base:Nat}{v:Value}{l:aG}(h:aS w base v l)(g:Nat)(hg:v.ownBlock=some g):base<=g/\g < w.heap.size:=h.lt g hg

theorem nC (w:au)(base p:Nat)(v:Value)(l:aG)(n k:Nat)(h:yn w base p v l)(hk1:1<=k)(pG:k<=8)(hn:n < 256^k)(hlen:l.length+k<=65536)(hbase:base<=w.heap.size):
  Calls prog 56 #[.pointer (some ⟨p,0,none⟩),.int .u64 n,.int .i64 k] w λe w' =>
   e= .returned (.int .i64 0)/\∃v',yn w' base p v' (l++dZ k n)/\ae w w' (p::v.ownBlock.toList)/\(v'.ownBlock=v.ownBlock\/∀g,v'.ownBlock=some g->w.heap.size<=g):=by
 have hw:lY (k:Int) 1 8=true:=by simp[lY];omega
 have Q0:n < 18446744073709551616:=by
  have h3:256^k<=256^8:=lQ (by omega) pG;have h4:(256:Nat)^8=18446744073709551616:=by decide
  omega
 have hsh:decide ((0:Int) < (n:Int) / 2^(8*k))=false:=by
  have h2:(256:Nat)^k=2^(8*k):=by rw[Nat.pow_mul]
  rw[h2]at hn;have h1:n / 2^(8*k)=0:=Nat.div_eq_of_lt hn;have h3:(n:Int) / 2^(8*k)=((n / 2^(8*k):Nat):Int):=by rw[Int.natCast_ediv,Int.natCast_pow];rfl
  rw[h3,h1];rfl
 have H:=zh h;clear h hn;have QY:=H.o.1.lt
 by_cases h8:k < 8
 all_goals
  have Q9:=h8
  go_enter func56,ntmps56
  go_wp2_with fail
  go_step3
  go_wp2_with fail
  refine(qM _ _ _ H.o.1).mono ?_;rintro e w1 ⟨rfl,rfl⟩
  go_wp2_with fail
  refine(uV _ _).mono ?_;rintro e w1 ⟨rfl,rfl⟩;rw[hw]
  go_wp2_with fail
  refine(Bl _ n k hk1 pG Q0).mono ?_;rintro e w1 ⟨u,rfl,ho,hk⟩;have HO:=zh (And.intro ho hk);clear ho hk
  go_wp2_with fail
  have hW1:yn w1 base p v l:=H.o.keep HO.o.2 (by simp) (by simp);have hlt:=HO.o.1.lt;refine(xI w1 base p v u l (dZ k n) hW1 (HO.o.1.bytes (by rw[aP];omega)) (by rw[aP];exact hlen) (cH hbase HO.o.2.size)).mono ?_;rintro e w2 ⟨rfl,v',hw2,hk2,hb2⟩;have HF:=zh (And.intro hw2 (And.intro hk2 hb2));clear hw2 hk2 hb2 hW1 hlt
  go_wp2
  rw[Exit.noGoto_ret];go_ret;obtain⟨hw2,hk2,hb2⟩:=HF.o;refine⟨rfl,v',hw2,(HO.o.2.weaken (T:=p::v.ownBlock.toList) (by simp)).trans hk2 (λx hx _=>hx), ?_⟩
  rcases hb2 with hb2 | hb2
  ·exact .inl hb2
  ·exact .inr λg hg=>cH HO.o.2.size (hb2 g hg)

theorem lX (w:au)(base p:Nat)(v:Value)(l:aG)(h:yn w base p v l)(hlen:l.length<=140737488351232):
  Calls prog 23 #[.pointer (some ⟨p,0,none⟩)] w λe w' =>∃v',e= .returned v' /\aS w' w.heap.size v' l/\ae w w' []:=by
 have h0:=h.1.cell 0;have hB:=h.2.bytes hlen;obtain⟨A,c,rfl,hc,hcm,hnil,hL⟩:=h.2.parts;have H:=zh h;have HB:=zh hB;clear h hB hnil hL
 go_enter func23,ntmps23
 go_wp2_with fail
 refine(qM _ _ _ H.o.1).mono ?_;rintro e w1 ⟨rfl,rfl⟩
 go_wp2_with fail
 refine(yh _ _ _ HB.o).mono ?_;rintro e w1 ⟨v',rfl,ho,hk⟩;have HO:=zh (And.intro ho hk);clear ho hk
 go_wp2
 go_ret;exact⟨v',rfl,HO.o.1,HO.o.2⟩

theorem rL (s:aG):Lib.strCells ⟨s.toArray⟩=s.map bq:=by simp[Lib.strCells,bq]
theorem jT (s:aG):(⟨s.toArray⟩:ByteArray).size=s.length:=by simp[ByteArray.size]

/-- append of a text's bytes onto bytes of the call's own. -/
theorem gS {ops:Array Oper}{rest:List Oper}{o:Oper}{a:Act}{w:au}{Q:Exit->Act->au->Prop}(hgd:o.guard=none)(sl x:Operand)
  (ho:o.op= .call {callee:= .builtin .append,args:= #[sl,x],argTypes:= #[32,9]})
  (base:Nat) (v:Value) (l s:aG) (hs:a.eval sl=v) (hown:aS w base v l) (hx:a.eval x=lI s) (hlen:l.length+s.length<=140737488351232) (hbase:base<=w.heap.size)
  (h:∀v' w',Hid (aS w' base v' (l++s)/\ae w w' v.ownBlock.toList)->wpList prog ops Q rest (a.put o.dst v') w'):wpList prog ops Q (o::rest) a w:=by
 obtain⟨i0,hi,hz0,hz1,hz2⟩:=info_parts lB;refine Lib.wpList_append_own_string w hgd sl x 32 9 ho base 5 i0 fF kO hi hz0 hz1 hz2 v l.length (l.map bq) hs hown ⟨s.toArray⟩ hx (by rw[jT];simp[maxLen];omega) (by rw[jT];omega) hbase ?_;intro v' w' h1 h2 _;refine h v' w' (zh ⟨?_,ae.fY h2⟩);unfold aS;rw[jT,rL]at h1;rw[bI,List.map_append];exact h1

theorem Ci (w:au)(base p:Nat)(v:Value)(l s:aG)(h:yn w base p v l)(hs:s.length<=65535)(hlen:l.length+(2+s.length)<=65536)(hbase:base<=w.heap.size):
  Calls prog 67 #[.pointer (some ⟨p,0,none⟩),lI s] w λe w' =>
   e= .returned (.int .i64 0)/\∃v',yn w' base p v' (l++(dZ 2 s.length++s))/\ae w w' (p::v.ownBlock.toList)/\(v'.ownBlock=v.ownBlock\/∀g,v'.ownBlock=some g->w.heap.size<=g):=by
 have hsz:(⟨s.toArray⟩:ByteArray).size=s.length:=jT s;have Ni:decide ((65535:Int) < (s.length:Int))=false:=by simp;omega
 have rA:IntKind.u64.wrap (s.length:Int)=(s.length:Int):=IntWalk.u64_in _ ⟨by omega,by omega⟩;have H:=zh h;have HS:=zh hs;have HL:=zh hlen;clear h hs hlen;have QY:=H.o.1.lt;unfold lI
 go_enter func67,ntmps67
 go_wp2_with fail
 refine(qM _ _ _ H.o.1).mono ?_;rintro e w1 ⟨rfl,rfl⟩
 go_wp2_with fail
 refine(Bl _ s.length 2 (by omega) (by omega) (by have:=HS.o;omega)).mono ?_;rintro e w1 ⟨u,rfl,ho,hk⟩;have HO:=zh (And.intro ho hk);clear ho hk
 go_wp2_with (at_builtin;refine gS rfl (.tmp 16) (.tmp 17) rfl w.heap.size u (dZ 2 s.length) s rfl HO.o.1 rfl (by have:=HS.o;rw[aP];omega) HO.o.2.size ?_;intro u2 w2 HA)
 have hW:yn w2 base p v l:=(H.o.keep HO.o.2 (by simp) (by simp)).keep HA.o.2 (λhm=>by
   have:=HO.o.1.lt p (by simpa using hm);omega) (λg hg hm=>by
   have h1:=HO.o.1.lt g (by simpa using hm);have h2:=H.o.2.lt g hg;omega)
 have Oq:ae w w2 []:=HO.o.2.trans HA.o.2 (λx hx hlt=>by
   have:=HO.o.1.lt x (by simpa using hx);omega)
 have HW:=zh (And.intro hW Oq);clear hW Oq
 go_wp2_with fail
 refine(xI w2 base p v u2 l (dZ 2 s.length++s) HW.o.1 (HA.o.1.bytes (by have:=HS.o;simp[aP];omega)) (by have:=HL.o;simp[aP];omega) (cH hbase HW.o.2.size)).mono ?_;rintro e w3 ⟨rfl,v',hw2,hk2,hb2⟩;have HF:=zh (And.intro hw2 (And.intro hk2 hb2));clear hw2 hk2 hb2
 go_wp2
 go_ret;obtain⟨hw2,hk2,hb2⟩:=HF.o;refine⟨rfl,v',hw2,(HW.o.2.weaken (T:=p::v.ownBlock.toList) (by simp)).trans hk2 (λx hx _=>hx), ?_⟩
 rcases hb2 with hb2 | hb2
 ·exact .inl hb2
 ·exact .inr λg hg=>cH HW.o.2.size (hb2 g hg)

theorem Ab (w:au)(base p:Nat)(v:Value)(l:aG)(b:Bool)(h:yn w base p v l)(hlen:l.length+1<=65536)(hbase:base<=w.heap.size):
  Calls prog 55 #[.pointer (some ⟨p,0,none⟩),.bool b] w λe w' =>
   e= .returned (.int .i64 0)/\∃v',yn w' base p v' (l++ [bif b then 1 else 0])/\ae w w' (p::v.ownBlock.toList)/\(v'.ownBlock=v.ownBlock\/∀g,v'.ownBlock=some g->w.heap.size<=g):=by
 have H:=zh h;clear h
 cases b
 ·go_enter func55,ntmps55
  go_wp2_with fail
  refine(nC w base p v l 0 1 H.o (by omega) (by omega) (by omega) hlen hbase).mono ?_;rintro e w1 ⟨rfl,h1⟩;have H1:=zh h1;clear h1
  go_wp2
  go_ret;exact⟨rfl,H1.o⟩
 ·go_enter func55,ntmps55
  go_wp2_with fail
  refine(nC w base p v l 1 1 H.o (by omega) (by omega) (by omega) hlen hbase).mono ?_;rintro e w1 ⟨rfl,h1⟩;have H1:=zh h1;clear h1
  go_wp2
  go_ret;exact⟨rfl,H1.o⟩
end Go.Proofs.YtahbikfbjenfpaaGreatDoor
