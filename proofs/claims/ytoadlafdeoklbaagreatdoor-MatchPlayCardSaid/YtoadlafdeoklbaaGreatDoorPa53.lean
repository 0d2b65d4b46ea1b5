/- Reference 13: Levels, a list of its own. match, plain: nodes counted by joined texts. Reference 14: Nodes. -/
import Derived.Test.YtoadlafdeoklbaaGreatDoorPa21
import Derived.Test.YtoadlafdeoklbaaGreatDoorPa5
import Derived.Test.YtoadlafdeoklbaaGreatDoorPa4
import Derived.Test.YtoadlafdeoklbaaGreatDoorPa39
import Derived.Test.YtoadlafdeoklbaaGreatDoorPa52

namespace Go.Proofs.YtoadlafdeoklbaaGreatDoor
open Go.RowKit Go.Shelf

def LvoPost (w:World)(s:List UInt8)(e:Ending)(w' :World):Prop:=∃A c,e= .returned (.slice A (tLev s).length c)∧OwnT w' w.heap.size (.slice A (tLev s).length c) (tLev s)∧Keeps w w' []
set_option maxRecDepth 100000 in
set_option maxHeartbeats 2000000 in
theorem rLevelsO_any (w:World)(s:List UInt8)(hs:s.length≤60000):Calls Tryz.prog 47 #[.string ⟨s.toArray⟩] w (LvoPost w s):=by
 obtain⟨S,hS⟩:∃S:ByteArray,(⟨s.toArray⟩:ByteArray)=S:=⟨_,rfl⟩;have hz:S.size=s.length:=by rw[←hS];rfl
 have HS:=zh hS;rw[hS];clear hS
 go_enter Tryz.func47,Tryz.ntmps47
 go_wp2_with fail
 go_loopw [3,4] (fun out i wr=>∃(k m c:Nat) (A:Option Addr) (l:List (List UInt8)),k≤s.length∧i= .int .i64 k∧out= .slice A (m+1) c∧m≤k∧Hid (LvAt w wr (s.take k) (.slice A (m+1) c) l)) (fun _ i _=>s.length - (intOf i).toNat)
 case atStart=>exact⟨0,0,1,_, [[]],by omega,rfl,rfl,by omega,zh ⟨rfl,ownT_one w [],Keeps.alloc _ _⟩⟩
 case round=>
  obtain⟨k,m,c,A,l,hk,rfl,rfl,hmk,HR⟩:=hrel
  by_cases hlt:k < s.length
  ·have HT:=zh (List.take_succ_eq_append_getElem hlt)
   have ix:∀h,S[k]'h=s[k]:=fun h=>str_get HS.out hlt h
   obtain⟨a,ha⟩:∃a,s[k]=a:=⟨_,rfl⟩;rw[ha]at HT ix;have hcut:S.extract k (k+1)=⟨[a].toArray⟩:=by
    rw[←HS.out,str_cut,Nat.add_sub_cancel_left,List.drop_eq_getElem_cons hlt,ha];rfl
   by_cases h47:a=47
   ·subst h47
    have HL:=zh (show tLev (s.take (k+1))=l++ [[]]by rw[HT.out,tLev_slash,HR.out.e]);obtain⟨Wa,hWa⟩:∃Wa,wr.alloc (.cells #[.string ⟨#[]⟩] 9)=Wa:=⟨_,rfl⟩;have ra:Row Wa wr.heap.size 9 #[.string ⟨#[]⟩]:=by rw[←hWa];exact Row.new _ _ _
    have ka:Keeps wr Wa []:=by rw[←hWa];exact Keeps.alloc _ _
    have hln:m+1=l.length:=HR.out.o.lies1.1;have HLa:=zh (show Lies Wa Wa.heap.size (some ⟨wr.heap.size,0,none⟩) ([([]:List UInt8)].flatMap txtV)from lies_of_row ra rfl);have HA:=zh (And.intro ka (And.intro (HR.out.o.keeps ka) (And.intro (HR.out.k.then_ ka) hln)));clear ra ka hcut ha hln
    go_wp2_with (at_builtin;refine wpList_append_N elemTxt encTxt rfl (.tmp 16) (.tmp 17) rfl w.heap.size (.slice A (m+1) c) (some ⟨wr.heap.size,0,none⟩) 1 1 l [[]] rfl rfl rfl HA.out.2.1 HLa.out (by have:=HA.out.2.2.2;simp;omega) HA.out.2.2.1.size ?_;intro A5 c5 w5 l5 hl5 hlen5 ho5 hk5 _;have H5:=zh (And.intro hl5.out (And.intro ho5 hk5));have hl5n:l5.length=m+2:=(by have:=HA.out.2.2.2;rw[hl5.out,List.length_append,List.length_singleton];omega);rw[hl5n];clear hl5 ho5 hk5 hlen5)
    have ho:=H5.out.2.1;rw[hl5n,H5.out.1]at ho;exact⟨⟨k+1,m+1,c5,A5,l++ [[]],by omega,by go_num,rfl,by omega,zh ⟨HL.out,ho,HA.out.2.2.1.trans H5.out.2.2 fun x hx hlt=>by
     have:=(HA.out.2.1.rows x hx).1;omega⟩⟩,by simp[intOf];omega⟩
   ·have hb:(((a.toNat:Int))==47)=false:=by
     rw[beq_eq_false_iff_ne];intro h;exact h47 (UInt8.toNat_inj.1 (by simpa using (show a.toNat=47 by omega)))
    have hln:m+1=l.length:=HR.out.o.lies1.1;have hml:m < l.length:=by omega
    have HL:=zh (show tLev (s.take (k+1))=l.set m (l[m]++ [a])by
     rw[HT.out];exact tLev_set h47 HR.out.e hln.symm hml)
    obtain⟨g,cur,rfl,-,hgB,hr,hc,-⟩:=OwnN.one (q:=fun a=> .string ⟨a.toArray⟩) (fun _=>rfl) HR.out.o hml;obtain⟨X,hX⟩:∃X,l[m]=X:=⟨_,rfl⟩;rw[hX]at hc HL;have hXl:X.length≤60000:=by
     have h1:X∈tLev (s.take k):=by rw[HR.out.e,←hX];exact List.getElem_mem hml
     have:=tLev_size h1;rw[List.length_take]at this;omega
    obtain⟨LS,hLS⟩:∃LS:ByteArray,(⟨X.toArray⟩:ByteArray)=LS:=⟨_,rfl⟩;have hLz:LS.size≤60000:=by rw[←hLS];exact hXl
    have hcat:LS++S.extract k (k+1)=⟨(X++ [a]).toArray⟩:=by rw[hcut,←hLS,txt_app]
    obtain⟨CS,hCS⟩:∃CS,S.extract k (k+1)=CS:=⟨_,rfl⟩;have hCz:CS.size=1:=by rw[←hCS,hcut];rfl
    rw[hCS]at hcat;rw[hLS]at hc;have M1:=fun(W' :World) (hW:Keeps wr W' [])=>((hr.keeps hW).cell m).trans hc
    have HG:=zh (And.intro hr (And.intro hgB (And.intro hcat (And.intro hml hln))));clear hr hgB hc hX hLS hcut hcat hXl hml hln
    go_upto_region 7 with fail
    have hw1:IntKind.i64.wrap (m:Int)=m:=IntWalk.i64_in _ (by omega);have hw2:IntKind.i64.wrap ((k:Int)+1)=k+1:=IntWalk.i64_in _ (by omega);have hw3:((k:Int)+1).toNat=k+1:=by omega
    have hw4:(k:Int)+1≤s.length:=by omega
    have hw5:(k:Int)≤k+1:=by omega
    have hw6:(0:Int)≤k+1:=by omega
    have hw7:(m:Int) < m+1:=by omega
    have hw8:¬9223372036854775807 < LS.size+1:=by omega
    refine wp_region_tail KeepsAll _ 16 (by kernel_rfl) rfl (by kernel_rfl) (fun _=>Keeps.refl _ _) (fun _ _ _ h k=>h.trans k (by simp)) (Keeps.drew _) ?_;simp only[zts,ztz,zds,zdz]
    iterate 9
     refine ls ?_;simp only[addEnt]
    apply loose_is
    ·intro W vals hW hkn
     simp only[knows]at hkn
     try simp only[and_true]at hkn
     clear hkn;have m1:=M1 W hW;refine⟨?_⟩;simp only[fill];go_simp
     first | exact⟨Keeps.refl _ _,rfl⟩ | exact⟨Keeps.alloc _ _,rfl⟩
    iterate 6
     simp only[addEnt];refine ls ?_
    simp only[addEnt];refine loose_nil (fun W vals hW hkn=> ?_);simp only[knowsAll]at hkn
    try simp only[and_true]at hkn
    simp only[fill,Act.put,zsa,zsc,zsz];clear hkn;have hr:=HG.out.1.keeps hW;have d0:=M1 W hW;have g0:=hr.frozen m;have HW:=zh (show Keeps wr W []from hW);clear hr hW M1
    go_wp2_with fail
    obtain⟨g',cur',e1,-,hgB,hr,hc,ho⟩:=OwnN.one (q:=fun a=> .string ⟨a.toArray⟩) (fun _=>rfl) (HR.out.o.keeps HW.out) HG.out.2.2.2.1;injection e1 with e1
    injection e1 with e1
    subst e1;have ho:=ho (X++ [a]);rw[←HG.out.2.2.1]at ho;exact⟨⟨k+1,m,c,_,_,by omega,by go_num,rfl,by omega,zh ⟨HL.out,ho,(HR.out.k.then_ HW.out).trans (Keeps.setCell _ _ _) fun x hx hlt=>by
     simp at hx;omega⟩⟩,by simp[intOf];omega⟩
  ·obtain rfl:k=s.length:=by omega
   have HE:=zh (show tLev s=l by rw[←HR.out.e,List.take_length])
   go_wp2_with fail
   go_ret;have:=HR.out.o.lies1;exact⟨A,c,by rw[HE.out,←this.1];rfl,by rw[HE.out,←this.1];exact HR.out.o,HR.out.k⟩
end Go.Proofs.YtoadlafdeoklbaaGreatDoor

namespace Go.Proofs.YtoadlafdeoklbaaGreatDoor

def jn (p:List (List UInt8)):List UInt8:=p.flatMap fun x=>47::x
def Sl (p:List (List UInt8)):Prop:=∀x∈p,(47:UInt8)∉x
theorem jn_app (p:List (List UInt8))(x:List UInt8):jn (p++ [x])=jn p++47::x:=by simp[jn]
theorem jn_lev:∀{n:Nat} {p:List (List UInt8)},p.length=n→Sl p→tLev (jn p)= []::p
 | 0,p,hn,_=>by
  rw[List.length_eq_zero_iff.1 hn];rfl
 | n+1,p,hn,h=>by
  have hp:p≠ []:=fun e=>by rw[e]at hn;cases hn
  obtain⟨q,x,rfl⟩:∃q x,p=q++ [x]:=⟨p.dropLast,p.getLast hp,(List.dropLast_concat_getLast hp).symm⟩;rw[jn_app,tLev_app,jn_lev (n:=n) (by simpa using hn) (fun y hy=>h y (by simp[hy])),tLev_plain (h x (by simp))];rfl
theorem jn_inj {p q:List (List UInt8)}(hp:Sl p)(hq:Sl q)(h:jn p=jn q):p=q:=by
 have h1:=jn_lev rfl hp;rw[h,jn_lev rfl hq]at h1;injection h1 with _ h1
 exact h1.symm
theorem sl_take (f:List UInt8)(k:Nat):Sl ((tLev f).take k):=fun _ hx=>tLev_47 (List.mem_of_mem_take hx)
theorem jn_take {f:List UInt8}{k:Nat}(hk:k < (tLev f).length):jn ((tLev f).take (k+1))=(jn ((tLev f).take k)++ [47])++(tLev f)[k]:=by
 rw[List.take_succ_eq_append_getElem hk,jn_app,List.append_assoc];rfl
theorem tjn_len:∀(f:List UInt8) (k:Nat),(jn ((tLev f).take k)).length≤f.length+1
 | [],k=>by
  cases k with
  | zero=>simp[jn]
  | succ k=>simp[tLev,jn]
 | a::f,k=>by
  cases k with
  | zero=>simp[jn]
  | succ k=>
   by_cases ha:a=47
   ·subst ha
    have h:=tjn_len f k;rw[tLev,if_pos rfl,zts];simp only[jn,List.flatMap_cons,List.length_append,List.length_cons,List.length_nil]at h ⊢
    omega
   ·obtain⟨l,ls,h1,h2⟩:=tLev_other (s:=f) ha
    have h:=tjn_len f (k+1);rw[h1,zts]at h;rw[h2,zts];simp only[jn,List.flatMap_cons,List.length_append,List.length_cons]at h ⊢
    omega
theorem seen_step {L:List Sb}{j:Nat}(hj:j < L.length):mtSeen (L.take (j+1))=(mtPres L[j].f).foldl mtSeenAdd (mtSeen (L.take j)):=by
 unfold mtSeen;rw[List.take_succ_eq_append_getElem hj,List.flatMap_append,List.foldl_append];simp
/-- The seen ones behind k beginnings more. -/
def ndK (K:List (List (List UInt8)))(f:List UInt8)(k:Nat):List (List (List UInt8)):=((mtPres f).take k).foldl mtSeenAdd K
theorem ndK_zero (K:List (List (List UInt8)))(f:List UInt8):ndK K f 0=K:=by simp[ndK]
theorem pres_len (f:List UInt8):(mtPres f).length=(tLev f).length:=by simp[mtPres]
theorem ndK_all (K:List (List (List UInt8)))(f:List UInt8):ndK K f (tLev f).length=(mtPres f).foldl mtSeenAdd K:=by
 unfold ndK;rw[←pres_len,List.take_length]
theorem ndK_succ (K:List (List (List UInt8))){f:List UInt8}{k:Nat}(hk:k < (tLev f).length):ndK K f (k+1)=mtSeenAdd (ndK K f k) ((tLev f).take (k+1)):=by
 unfold ndK;rw[List.take_succ_eq_append_getElem (by rw[pres_len];exact hk),List.foldl_append];simp[mtPres]
theorem add_sl {T:List (List (List UInt8))}{p:List (List UInt8)}(hT:∀q∈T,Sl q)(hp:Sl p):∀q∈mtSeenAdd T p,Sl q:=by
 unfold mtSeenAdd
 split
 ·exact hT
 ·intro q hq
  rcases List.mem_append.1 hq with h | h
  ·exact hT q h
  ·rw[List.mem_singleton.1 h]
   exact hp
theorem ndK_sl {K:List (List (List UInt8))}(hK:∀q∈K,Sl q)(f:List UInt8):∀k,k≤(tLev f).length→∀q∈ndK K f k,Sl q
 | 0,_=>by rw[ndK_zero];exact hK
 | k+1,h=>by rw[ndK_succ K (by omega)];exact add_sl (ndK_sl hK f k (by omega)) (sl_take f _)
theorem mtSeen_sl (L:List Sb):∀q∈mtSeen L,Sl q:=fun q hq=>by
 obtain⟨h0,h1 | ⟨x,_,h2⟩⟩:=mem_mtSeen.1 hq
 ·exact absurd h1 h0
 ·exact fun y hy=>tLev_47 (h2.subset hy)
theorem add_map {T:List (List (List UInt8))}{p:List (List UInt8)}(hT:∀q∈T,Sl q)(hp:Sl p):(mtSeenAdd T p).map jn=if((T.map jn).any fun y=>y==jn p)=true then T.map jn else T.map jn++ [jn p]:=by
 have h:(((T.map jn).any fun y=>y==jn p)=true)↔p∈T:=by
  rw[List.any_eq_true]
  constructor
  ·rintro⟨y,hy,e⟩
   obtain⟨q,hq,rfl⟩:=List.mem_map.1 hy;rw[←jn_inj (hT q hq) hp (eq_of_beq e)];exact hq
  ·exact fun hm=>⟨jn p,List.mem_map_of_mem hm,by simp⟩
 unfold mtSeenAdd
 by_cases hm:p∈T
 ·rw[if_pos hm,if_pos (h.2 hm)]
 ·rw[if_neg hm,if_neg (fun e=>hm (h.1 e))]
  simp
theorem ndK_le (K:List (List (List UInt8)))(hK:K.Nodup)(f:List UInt8)(k:Nat):(ndK K f k).length≤K.length+k:=by
 have h:=(seen_fold ((mtPres f).take k) K hK).2.2;unfold ndK;rw[List.length_take]at h;omega
theorem any_take {l:List (List UInt8)}{z:List UInt8}{q:Nat}(hq:q < l.length):((l.take (q+1)).any fun y=>y==z)=(((l.take q).any fun y=>y==z) || l[q]==z):=by
 rw[List.take_succ_eq_append_getElem hq,List.any_append,List.any_cons,List.any_nil,Bool.or_false]
end Go.Proofs.YtoadlafdeoklbaaGreatDoor

namespace Go.Proofs.YtoadlafdeoklbaaGreatDoor
open Go.RowKit Go.Maps Go.Shelf

/-- Where the outer loop stands. -/
structure RfnAt (w wr:World)(T:List (List (List UInt8)))(v:Value):Prop where
 own:OwnT wr w.heap.size v (T.map jn)
 k:Keeps w wr []
/-- Where the loop over the levels stands. -/
structure RfnIn (w wr:World)(T:List (List (List UInt8)))(v:Value)(B:Nat)(xv:Value)(P:List (List UInt8)):Prop where
 own:OwnT wr w.heap.size v (T.map jn)
 k:Keeps w wr []
 x:OwnT wr B xv P
 ap:∀g,xv.ownBlock=some g→g∉v.ownBlock.toList
theorem RfnIn.keeps {w wr w' :World}{T:List (List (List UInt8))}{v xv:Value}{B:Nat}{P:List (List UInt8)}(h:RfnIn w wr T v B xv P)(hk:Keeps wr w' []):RfnIn w w' T v B xv P:=⟨h.own.keeps hk,h.k.then_ hk,h.x.keeps hk,h.ap⟩
theorem RfnAt.to {w wr w2:World}{T:List (List (List UInt8))}{v xv:Value}{P:List (List UInt8)}(h:RfnAt w wr T v)(hk:Keeps wr w2 [])(hx:OwnT w2 wr.heap.size xv P):RfnIn w w2 T v wr.heap.size xv P:=
 ⟨h.own.keeps hk,h.k.then_ hk,hx,fun g hg hm=>by
  obtain⟨_,cs,hr⟩:=h.own.rows g hm;have h1:=(hx.rows g (by rw[hg];simp)).1;have h2:=hr.lt;omega⟩
theorem own_txt {w:World}{B:Nat}{A:Option Addr}{n c m:Nat}{l:List (List UInt8)}(h:OwnT w B (.slice A n c) l)(hm:m < l.length):∃g cur,A=some ⟨g,0,none⟩∧n=l.length∧Row w g 9 cur∧cur[m]? =some (.string ⟨l[m].toArray⟩):=by
 obtain⟨g,cur,h1,h2,_,h3,h4,_⟩:=OwnN.one (q:=fun a=> .string ⟨a.toArray⟩) (fun _=>rfl) h hm;exact⟨g,cur,h1,h2,h3,h4⟩
set_option maxRecDepth 100000 in
set_option maxHeartbeats 4000000 in
theorem rfNodes_any (w:World)(A:Option Addr)(cap:Nat)(L:List Sb)(hl:ListAt w 25 3 sbC A L)(hok:∀x∈L,tFilter x.f=true∧x.f.length≤50000)(hle:L.length≤4096):
  Calls Tryz.prog 58 #[.slice A L.length cap] w fun e w' =>e= .returned (.int .i64 (mtNodes L:Nat))∧Keeps w w' []:=by
 have HL:=zh hl;have HOK:=zh hok;have HLE:=zh hle;clear hl hok hle
 go_enter Tryz.func58,Tryz.ntmps58
 go_wp2_with fail
 go_loopw [3,4] (fun v i wr=>∃j:Nat,j≤L.length∧i= .int .i64 j∧Hid (RfnAt w wr (mtSeen (L.take j)) v)) (fun _ i _=>L.length - (intOf i).toNat)
 case atStart=>exact⟨0,by omega,rfl,zh ⟨OwnN.nil _ _ _ _ _,Keeps.refl _ _⟩⟩
 case round=>
  obtain⟨j,hj,rfl,HR⟩:=hrel;have hle:=HLE.out
  by_cases hjl:j < L.length
  ·obtain⟨b,o,rfl,_,_⟩:=HL.out.at_ hjl
   have HST:=zh (seen_step hjl);have HOX:=zh (HOK.out _ (List.getElem_mem hjl));obtain⟨⟨xf,xc,xq⟩,hx⟩:∃x,L[j]=x:=⟨_,rfl⟩;have HCW:=zh (show∀W,Keeps w W []→∀k,k < 3→W.cell? ⟨b,o+j*3+k,none⟩=(sbC ⟨xf,xc,xq⟩)[k]? from fun W hk k hki=>by
    rw[←hx];obtain⟨b',o',e,_,hc'⟩:=(HL.out.keeps hk).at_ hjl;injection e with e
    injection e with e1 e2
    subst e1 e2;exact hc' k hki)
   rw[hx]at HST HOX;obtain⟨X,hX⟩:∃S:ByteArray,(⟨xf.toArray⟩:ByteArray)=S:=⟨_,rfl⟩;have c0:=HCW.out wr HR.out.k 0 (by omega);simp only[sbC,zgz,Nat.add_zero,hX]at c0;have HLV:=zh (rLevelsO_any wr xf (by have:=HOX.out.2;simpa using (show xf.length≤60000 by have:=HOX.out.2;simp at this;omega)));rw[hX]at HLV;obtain⟨K,hK⟩:∃K,mtSeen (L.take j)=K:=⟨_,rfl⟩;have HKK:=zh (show K.Nodup∧(∀q∈K,Sl q)∧K.length≤L.length*201 from by
    rw[←hK];refine⟨mtSeen_nodup _,mtSeen_sl _,Nat.le_trans (mtNodes_le (L:=L.take j) fun x hx=>(HOK.out x (List.mem_of_mem_take hx)).1) (Nat.mul_le_mul_right _ (by rw[List.length_take];omega))⟩)
   have HNA:=zh (show RfnAt w wr K u3 from by rw[←hK];exact HR.out);rw[hK]at HST;have HFL:=zh (show(tLev xf).length≤50001∧∀k,(jn ((tLev xf).take k)).length≤50001 from by
    have h1:=tLev_len xf;have h2:xf.length≤50000:=HOX.out.2;exact⟨by omega,fun k=>by have:=tjn_len xf k;omega⟩)
   obtain⟨A0,n0,rfl⟩:=OwnN.slice HNA.out.own;obtain⟨l0,hl0⟩:∃n,(K.map jn).length=n:=⟨_,rfl⟩;rw[hl0]at HNA;rw[hl0];clear hx hX hK HR hl0
   go_wp2_with fail
   refine HLV.out.mono ?_;rintro e w2 ⟨A2,c2,rfl,ho2,hk2⟩;have HN2:=zh (RfnAt.to HNA.out hk2 ho2);obtain⟨n,hn⟩:∃n,(tLev xf).length=n:=⟨_,rfl⟩;have HNL:=zh hn;obtain⟨BX,hBX⟩:∃z,wr.heap.size=z:=⟨_,rfl⟩;rw[hn,hBX]at HN2;rw[hn];clear hBX;have hnn:n≤50001:=by have:=HFL.out.1;omega
   clear hk2 ho2 HLV c0 hn HNA
   go_wp2_with fail
   go_loopw [3,6,7] (fun v s k wr' =>∃m:Nat,m≤n∧k= .int .i64 m∧∃S:ByteArray,s= .string S∧S.size≤50001∧Hid (S=⟨(jn ((tLev xf).take m)).toArray⟩)∧Hid (RfnIn w wr' (ndK K xf m) v BX (.slice A2 n c2) (tLev xf))) (fun _ _ k _=>n - (intOf k).toNat)
   case atStart=>exact⟨0,by omega,by go_num,_,rfl,by decide,zh rfl,zh (by rw[ndK_zero];exact HN2.out)⟩
   case round=>
    obtain⟨m,hm,rfl,S,rfl,hSz,HS,HI⟩:=hrel
    by_cases hmn:m < n
    ·have hml:m < (tLev xf).length:=by have:=HNL.out;omega
     obtain⟨g2,cu2,rfl,-,hr2,hc2⟩:=own_txt HI.out.x hml;have HJT:=zh (jn_take hml);have HND:=zh (ndK_succ K hml);have HSL:=zh (ndK_sl HKK.out.2.1 xf m (by omega));have HLN:=zh (ndK_le K HKK.out.1 xf m);obtain⟨X1,hX1⟩:∃S:ByteArray,(⟨(tLev xf)[m].toArray⟩:ByteArray)=S:=⟨_,rfl⟩;rw[hX1]at hc2;have hXz:X1.size≤50000:=by
      have h1:=tLev_size (List.getElem_mem hml);have h2:xf.length≤50000:=HOX.out.2;rw[←hX1];show((tLev xf)[m].toArray).size≤_;simp only[List.size_toArray];omega
     obtain⟨S1,hS1⟩:∃q,S++(⟨#[47]⟩:ByteArray)=q:=⟨_,rfl⟩;obtain⟨Z,hZ⟩:∃q,S1++X1=q:=⟨_,rfl⟩;have HZ:=zh (show Z=⟨(jn ((tLev xf).take (m+1))).toArray⟩from by
      rw[←hZ,←hS1,HS.out,←hX1,HJT.out,txt_app,←txt_app];rfl)
     have hz1:¬9223372036854775807 < S.size+1:=by omega
     have hs1:S1.size=S.size+1:=by rw[←hS1,ByteArray.size_append];rfl
     have hz2:¬9223372036854775807 < S1.size+X1.size:=by omega
     have hZz:Z.size≤50001:=by
      rw[HZ.out];exact HFL.out.2 (m+1)
     obtain⟨TM,hTM⟩:∃l,(ndK K xf m).map jn=l:=⟨_,rfl⟩;have HTM:=zh hTM;have HO:=zh (show OwnT wr w.heap.size u3 TM from by rw[←hTM];exact HI.out.own);obtain⟨A1,n1,rfl⟩:=OwnN.slice HO.out;have htm:TM.length≤900000:=by
      have h1:=HLN.out;have h2:=HKK.out.2.2;rw[←hTM,List.length_map];omega
     have c1:=(hr2.cell m).trans hc2;clear hX1 hr2 hc2 HO hTM
     go_wp2_with fail
     have HI9:=HI;clear HI hS1 hZ hz1 hz2 hs1 c1
     go_loopw [8,9] (fun t q wq=>∃k:Nat,k≤TM.length∧q= .int .i64 k∧∃tb:Bool,t= .bool tb∧Hid (((TM.take k).any fun y=>y==jn ((tLev xf).take (m+1)))=tb)∧Hid (RfnIn w wq (ndK K xf m) (.slice A1 TM.length n1) BX (.slice (some ⟨g2,0,none⟩) n c2) (tLev xf))) (fun _ q _=>TM.length - (intOf q).toNat)
     case atStart=>exact⟨0,by omega,by go_num,false,rfl,zh rfl,HI9⟩
     case round=>
      obtain⟨k,hk,rfl,tb,rfl,HT,HI⟩:=hrel
      by_cases hkl:k < TM.length
      ·have HAT:=zh (any_take (z:=jn ((tLev xf).take (m+1))) hkl)
       obtain⟨g,cur,rfl,-,hr,hc⟩:=own_txt (show OwnT wr w.heap.size _ TM from by rw[←HTM.out];exact HI.out.own) hkl;obtain⟨Y,hY⟩:∃S:ByteArray,(⟨TM[k].toArray⟩:ByteArray)=S:=⟨_,rfl⟩;rw[hY]at hc;have HBE:=zh (show(TM[k]==jn ((tLev xf).take (m+1)))=(Y.toList==Z.toList)from by rw[←hY,HZ.out,Lib.toList_data,Lib.toList_data]);obtain⟨be,hbe⟩:∃z,(Y.toList==Z.toList)=z:=⟨_,rfl⟩;rw[hbe]at HBE;rw[HT.out,HBE.out]at HAT;have c2' :=(hr.cell k).trans hc;clear hY hr hc
       cases tb with
       | true=>
        go_wp2_with fail
        exact⟨⟨k+1,by omega,by go_num,true,rfl,zh (by rw[HAT.out];rfl),HI⟩,by simp[intOf];omega⟩
       | false=>
        go_wp2_with fail
        exact⟨⟨k+1,by omega,by go_num,be,rfl,zh (by rw[HAT.out];rfl),HI⟩,by simp[intOf];omega⟩
      ·obtain rfl:k=TM.length:=by omega
       have HNM:=zh (show(ndK K xf (m+1)).map jn=if tb=true then TM else TM++ [jn ((tLev xf).take (m+1))]from by
        rw[HND.out,add_map HSL.out (sl_take _ _),HTM.out];have h:=HT.out;rw[List.take_length]at h;rw[h])
       cases tb with
       | true=>
        have HI9:=zh (show RfnIn w wr (ndK K xf (m+1)) (.slice A1 TM.length n1) _ (.slice (some ⟨g2,0,none⟩) n c2) (tLev xf)from⟨by rw[HNM.out,if_pos rfl];have h:=HI.out.own;rwa [HTM.out]at h,HI.out.k,HI.out.x,HI.out.ap⟩);clear HI
        go_wp2_with fail
        exact⟨⟨m+1,by omega,by go_num,Z,rfl,hZz,HZ,HI9⟩,by simp[intOf];omega⟩
       | false=>
        obtain⟨Wa,hWa⟩:∃Wa,wr.alloc (.cells #[.string Z] 9)=Wa:=⟨_,rfl⟩;have ra:Row Wa wr.heap.size 9 #[.string Z]:=by rw[←hWa];exact Row.new _ _ _
        have ka:Keeps wr Wa []:=by rw[←hWa];exact Keeps.alloc _ _
        have HLa:=zh (show Lies Wa Wa.heap.size (some ⟨wr.heap.size,0,none⟩) ([jn ((tLev xf).take (m+1))].flatMap txtV)from lies_of_row ra (by rw[HZ.out];rfl));have HIa:=zh (HI.out.keeps ka);have HOa:=zh (show OwnT Wa w.heap.size (.slice A1 TM.length n1) TM from by have h:=HIa.out.own;rwa [HTM.out]at h);clear ra ka HI
        go_wp2_with (at_builtin;refine wpList_append_N elemTxt encTxt rfl (.tmp 52) (.tmp 54) rfl w.heap.size (.slice A1 TM.length n1) (some ⟨wr.heap.size,0,none⟩) 1 1 TM [jn ((tLev xf).take (m+1))] rfl rfl rfl HOa.out HLa.out (by simp;omega) HIa.out.k.size ?_;intro A5 c5 w5 l5 hl5 hlen5 ho5 hk5 hb5;have H5:=zh (And.intro hl5.out (And.intro ho5 (And.intro hk5 hb5)));clear hl5 ho5 hk5 hlen5 hb5)
        have HI9:=zh (show RfnIn w w5 (ndK K xf (m+1)) (.slice A5 l5.length c5) _ (.slice (some ⟨g2,0,none⟩) n c2) (tLev xf)from⟨by
         rw[HNM.out,if_neg (by decide),←H5.out.1];exact H5.out.2.1,HIa.out.k.trans H5.out.2.2.1 fun x hx hlt=>by
         have:=(HOa.out.rows x hx).1;omega,ownN_keep HIa.out.x H5.out.2.2.1 HIa.out.ap,fun g hg hm=>by
         rcases H5.out.2.2.2 with h | h
         ·rw[h]at hm
          exact HIa.out.ap g hg hm
         ·rw[h]at hm
          obtain⟨_,cs,hr⟩:=HIa.out.x.rows g (by rw[hg];simp);have h1:=hr.lt;simp at hm;omega⟩)
        exact⟨⟨m+1,by omega,by go_num,Z,rfl,hZz,HZ,HI9⟩,by simp[intOf];omega⟩
    ·obtain rfl:m=n:=by omega
     have HNX:=zh (show RfnAt w wr (mtSeen (L.take (j+1))) u3 from by
      rw[HST.out,←ndK_all,HNL.out];exact⟨HI.out.own,HI.out.k⟩)
     clear HI
     go_wp2_with fail
     exact⟨⟨j+1,by omega,by go_num,HNX⟩,by simp[intOf];omega⟩
  ·obtain rfl:j=L.length:=by omega
   have HEN:=zh (show((mtSeen L).map jn).length=mtNodes L from by rw[List.length_map];rfl);have HOW:=zh (show OwnT wr w.heap.size u3 ((mtSeen L).map jn)from by have h:=HR.out.own;rwa [List.take_length]at h);obtain⟨A1,n1,rfl⟩:=OwnN.slice HOW.out;rw[HEN.out]
   go_wp2_with fail
   go_ret;exact⟨rfl,HR.out.k⟩
end Go.Proofs.YtoadlafdeoklbaaGreatDoor
