/- Reference 13: Levels. Reference 13: Filter. -/
import Derived.Test.YtoadlafdeoklbaaGreatDoorPa20

namespace Go.Proofs.YtoadlafdeoklbaaGreatDoor
open Go.RowKit Go.Shelf

theorem tLev_slash (s:List UInt8):tLev (s++ [47])=tLev s++ [[]]:=tLev_app s []
theorem tLev_snoc {a:UInt8}(ha:a≠47)(s:List UInt8):∃ls x,tLev s=ls++ [x]∧tLev (s++ [a])=ls++ [x++ [a]]:=by
 induction s with
 | nil=>exact⟨[], [],rfl,by rw[List.nil_append,tLev_plain (by simpa using Ne.symm ha)];rfl⟩
 | cons b s ih=>
  obtain⟨ls,x,h1,h2⟩:=ih
  by_cases hb:b=47
  ·subst hb
   refine⟨[]::ls,x, ?_, ?_⟩
   ·rw[tLev,if_pos rfl,h1];rfl
   ·rw[List.cons_append,tLev,if_pos rfl,h2];rfl
  ·obtain⟨l,m,e1,e2⟩:=tLev_other (s:=s) hb
   obtain⟨l',m',e3,e4⟩:=tLev_other (s:=s++ [a]) hb;rw[h1]at e1;rw[h2]at e3
   cases ls with
   | nil=>
    injection e1 with e5 e6
    injection e3 with e7 e8
    exact⟨[],b::x,by rw[e2,←e5,←e6];rfl,by rw[List.cons_append,e4,←e7,←e8];rfl⟩
   | cons y ls=>
    injection e1 with e5 e6
    injection e3 with e7 e8
    exact⟨(b::y)::ls,x,by rw[e2,←e5,←e6];rfl,by rw[List.cons_append,e4,←e7,←e8];rfl⟩
theorem tLev_set {a:UInt8}(ha:a≠47){s:List UInt8}{l:List (List UInt8)}{m:Nat}(hl:tLev s=l)(hm:l.length=m+1)(h:m < l.length):tLev (s++ [a])=l.set m (l[m]++ [a]):=by
 obtain⟨ls,x,h1,h2⟩:=tLev_snoc ha s;subst hl;have hls:ls.length=m:=by
  rw[h1,List.length_append,List.length_singleton]at hm;omega
 subst hls;rw[h2];simp[h1]
theorem elemTxt:ElemN Tryz.prog 77 9 1:=elemN_of (bytes:=16) (z:= .string ⟨#[]⟩) (by kernel_rfl) (by kernel_rfl) (by omega) rfl
theorem flat_txt (l:List (List UInt8)):l.flatMap txtV=txL l:=by
 induction l with
 | nil=>rfl
 | cons a l ih=>rw[List.flatMap_cons,ih];rfl
abbrev OwnT (w:World)(B:Nat)(v:Value)(l:List (List UInt8)):Prop:=OwnN w B 9 1 txtV v l
theorem OwnN.lies1 {w:World}{B n c:Nat}{A:Option Addr}{l:List (List UInt8)}(h:OwnT w B (.slice A n c) l):n=l.length∧Lies w w.heap.size A (txL l):=by
 obtain⟨A',c',e⟩:=OwnN.slice h;injection e with e1 e2 e3
 subst e1 e2 e3;refine⟨rfl, ?_⟩;have:=(OwnN.at_ h encTxt).lies encTxt
 rwa [flat_txt]at this
theorem OwnN.cap {w:World}{B n c:Nat}{A:Option Addr}{l:List (List UInt8)}(h:OwnT w B (.slice A n c) l):l.length≤c:=by
 rcases h.2 with⟨hv,h0⟩ | ⟨gb,cap,cur,hv,_,_,h1,h2,_⟩
 ·injection hv with _ h3 h4
  subst h3 h4;omega
 ·injection hv with _ h3 h4
  subst h3 h4;exact h1
theorem ownT_one (w:World)(x:List UInt8):OwnT (w.alloc (.cells #[.string ⟨x.toArray⟩] 9)) w.heap.size (.slice (some ⟨w.heap.size,0,none⟩) 1 1) [x]:=
 ⟨by simp[txtV],.inr ⟨w.heap.size,1, #[.string ⟨x.toArray⟩],rfl,Nat.le_refl _,Row.new _ _ _,by simp,by simp[maxLen],by simp,by simp[txtV]⟩⟩
/-- The levels of the first bytes of a text. -/
structure LvAt (w wr:World)(s:List UInt8)(v:Value)(l:List (List UInt8)):Prop where
 e:tLev s=l
 o:OwnT wr w.heap.size v l
 k:Keeps w wr []
def LvPost (w:World)(s:List UInt8)(e:Ending)(w' :World):Prop:=∃A c,e= .returned (.slice A (tLev s).length c)∧(tLev s).length≤c∧Lies w' w'.heap.size A (txL (tLev s))∧Keeps w w' []
set_option maxRecDepth 100000 in
set_option maxHeartbeats 2000000 in
theorem rLevels_any (w:World)(s:List UInt8)(hs:s.length≤60000):Calls Tryz.prog 47 #[.string ⟨s.toArray⟩] w (LvPost w s):=by
 obtain⟨S,hS⟩:∃S:ByteArray,(⟨s.toArray⟩:ByteArray)=S:=⟨_,rfl⟩;have hz:S.size=s.length:=by rw[←hS];rfl
 have HS:=zh hS;rw[hS];clear hS
 go_enter Tryz.func47,Tryz.ntmps47
 go_wp2_with fail
 go_loopw [3,4] (fun out i wr=>∃(k m c:Nat) (A:Option Addr) (l:List (List UInt8)),k≤s.length∧i= .int .i64 k∧out= .slice A (m+1) c∧m≤k∧Hid (LvAt w wr (s.take k) (.slice A (m+1) c) l)) (fun _ i _=>s.length - (intOf i).toNat)
 case atStart=>exact⟨0,0,1,_, [[]],by omega,rfl,rfl,by omega,zh ⟨rfl,ownT_one w [],Keeps.alloc _ _⟩⟩
 case round=>
  obtain⟨k,m,c,A,l,hk,rfl,rfl,hmk,HR⟩:=hrel
  by_cases hlt:k < s.length
  ·have HT:=zh (List.take_succ_eq_append_getElem hlt)
   have ix:∀h,S[k]'h=s[k]:=fun h=>str_get HS.out hlt h
   obtain⟨a,ha⟩:∃a,s[k]=a:=⟨_,rfl⟩;rw[ha]at HT ix;have hcut:S.extract k (k+1)=⟨[a].toArray⟩:=by
    rw[←HS.out,str_cut,Nat.add_sub_cancel_left,List.drop_eq_getElem_cons hlt,ha];rfl
   by_cases h47:a=47
   ·subst h47
    have HL:=zh (show tLev (s.take (k+1))=l++ [[]]by rw[HT.out,tLev_slash,HR.out.e]);obtain⟨Wa,hWa⟩:∃Wa,wr.alloc (.cells #[.string ⟨#[]⟩] 9)=Wa:=⟨_,rfl⟩;have ra:Row Wa wr.heap.size 9 #[.string ⟨#[]⟩]:=by rw[←hWa];exact Row.new _ _ _
    have ka:Keeps wr Wa []:=by rw[←hWa];exact Keeps.alloc _ _
    have hln:m+1=l.length:=HR.out.o.lies1.1;have HLa:=zh (show Lies Wa Wa.heap.size (some ⟨wr.heap.size,0,none⟩) ([([]:List UInt8)].flatMap txtV)from lies_of_row ra rfl);have HA:=zh (And.intro ka (And.intro (HR.out.o.keeps ka) (And.intro (HR.out.k.then_ ka) hln)));clear ra ka hcut ha hln
    go_wp2_with (at_builtin;refine wpList_append_N elemTxt encTxt rfl (.tmp 16) (.tmp 17) rfl w.heap.size (.slice A (m+1) c) (some ⟨wr.heap.size,0,none⟩) 1 1 l [[]] rfl rfl rfl HA.out.2.1 HLa.out (by have:=HA.out.2.2.2;simp;omega) HA.out.2.2.1.size ?_;intro A5 c5 w5 l5 hl5 hlen5 ho5 hk5 _;have H5:=zh (And.intro hl5.out (And.intro ho5 hk5));have hl5n:l5.length=m+2:=(by have:=HA.out.2.2.2;rw[hl5.out,List.length_append,List.length_singleton];omega);rw[hl5n];clear hl5 ho5 hk5 hlen5)
    have ho:=H5.out.2.1;rw[hl5n,H5.out.1]at ho;exact⟨⟨k+1,m+1,c5,A5,l++ [[]],by omega,by go_num,rfl,by omega,zh ⟨HL.out,ho,HA.out.2.2.1.trans H5.out.2.2 fun x hx hlt=>by
     have:=(HA.out.2.1.rows x hx).1;omega⟩⟩,by simp[intOf];omega⟩
   ·have hb:(((a.toNat:Int))==47)=false:=by
     rw[beq_eq_false_iff_ne];intro h;exact h47 (UInt8.toNat_inj.1 (by simpa using (show a.toNat=47 by omega)))
    have hln:m+1=l.length:=HR.out.o.lies1.1;have hml:m < l.length:=by omega
    have HL:=zh (show tLev (s.take (k+1))=l.set m (l[m]++ [a])by
     rw[HT.out];exact tLev_set h47 HR.out.e hln.symm hml)
    obtain⟨g,cur,rfl,-,hgB,hr,hc,-⟩:=OwnN.one (q:=fun a=> .string ⟨a.toArray⟩) (fun _=>rfl) HR.out.o hml;obtain⟨X,hX⟩:∃X,l[m]=X:=⟨_,rfl⟩;rw[hX]at hc HL;have hXl:X.length≤60000:=by
     have h1:X∈tLev (s.take k):=by rw[HR.out.e,←hX];exact List.getElem_mem hml
     have:=tLev_size h1;rw[List.length_take]at this;omega
    obtain⟨LS,hLS⟩:∃LS:ByteArray,(⟨X.toArray⟩:ByteArray)=LS:=⟨_,rfl⟩;have hLz:LS.size≤60000:=by rw[←hLS];exact hXl
    have hcat:LS++S.extract k (k+1)=⟨(X++ [a]).toArray⟩:=by rw[hcut,←hLS,txt_app]
    obtain⟨CS,hCS⟩:∃CS,S.extract k (k+1)=CS:=⟨_,rfl⟩;have hCz:CS.size=1:=by rw[←hCS,hcut];rfl
    rw[hCS]at hcat;rw[hLS]at hc;have M1:=fun(W' :World) (hW:Keeps wr W' [])=>((hr.keeps hW).cell m).trans hc
    have HG:=zh (And.intro hr (And.intro hgB (And.intro hcat (And.intro hml hln))));clear hr hgB hc hX hLS hcut hcat hXl hml hln
    go_upto_region 7 with fail
    have hw1:IntKind.i64.wrap (m:Int)=m:=IntWalk.i64_in _ (by omega);have hw2:IntKind.i64.wrap ((k:Int)+1)=k+1:=IntWalk.i64_in _ (by omega);have hw3:((k:Int)+1).toNat=k+1:=by omega
    have hw4:(k:Int)+1≤s.length:=by omega
    have hw5:(k:Int)≤k+1:=by omega
    have hw6:(0:Int)≤k+1:=by omega
    have hw7:(m:Int) < m+1:=by omega
    have hw8:¬9223372036854775807 < LS.size+1:=by omega
    refine wp_region_tail KeepsAll _ 16 (by kernel_rfl) rfl (by kernel_rfl) (fun _=>Keeps.refl _ _) (fun _ _ _ h k=>h.trans k (by simp)) (Keeps.drew _) ?_;simp only[zts,ztz,zds,zdz]
    iterate 9
     refine ls ?_;simp only[addEnt]
    apply loose_is
    ·intro W vals hW hkn
     simp only[knows]at hkn
     try simp only[and_true]at hkn
     clear hkn;have m1:=M1 W hW;refine⟨?_⟩;simp only[fill];go_simp
     first | exact⟨Keeps.refl _ _,rfl⟩ | exact⟨Keeps.alloc _ _,rfl⟩
    iterate 6
     simp only[addEnt];refine ls ?_
    simp only[addEnt];refine loose_nil (fun W vals hW hkn=> ?_);simp only[knowsAll]at hkn
    try simp only[and_true]at hkn
    simp only[fill,Act.put,zsa,zsc,zsz];clear hkn;have hr:=HG.out.1.keeps hW;have d0:=M1 W hW;have g0:=hr.frozen m;have HW:=zh (show Keeps wr W []from hW);clear hr hW M1
    go_wp2_with fail
    obtain⟨g',cur',e1,-,hgB,hr,hc,ho⟩:=OwnN.one (q:=fun a=> .string ⟨a.toArray⟩) (fun _=>rfl) (HR.out.o.keeps HW.out) HG.out.2.2.2.1;injection e1 with e1
    injection e1 with e1
    subst e1;have ho:=ho (X++ [a]);rw[←HG.out.2.2.1]at ho;exact⟨⟨k+1,m,c,_,_,by omega,by go_num,rfl,by omega,zh ⟨HL.out,ho,(HR.out.k.then_ HW.out).trans (Keeps.setCell _ _ _) fun x hx hlt=>by
     simp at hx;omega⟩⟩,by simp[intOf];omega⟩
  ·obtain rfl:k=s.length:=by omega
   have HE:=zh (show tLev s=l by rw[←HR.out.e,List.take_length])
   go_wp2_with fail
   go_ret;have:=HR.out.o.lies1;exact⟨A,c,by rw[HE.out,←this.1];rfl,by rw[HE.out];exact OwnN.cap HR.out.o,by rw[HE.out];exact this.2,HR.out.k⟩

theorem tOks_at (L:List (List UInt8)):tOks L=true↔∀j (h:j < L.length),tOk L[j] (j+1==L.length)=true:=by
 rw[tOks_seq,List.all_eq_true]
 constructor
 ·intro h j hj
  have:=h ((tSeq L)[j]'(by rw[tSeq_len];exact hj)) (List.getElem_mem _)
  rwa [tSeq_get hj]at this
 ·intro h x hx
  obtain⟨j,hj,rfl⟩:=List.mem_iff_getElem.1 hx;rw[tSeq_len]at hj;rw[tSeq_get hj];exact h j hj
set_option maxRecDepth 100000 in
set_option maxHeartbeats 2000000 in
theorem rFilter_any (w:World)(s:List UInt8)(hs:s.length≤60000):Calls Tryz.prog 48 #[.string ⟨s.toArray⟩] w (TruePost w (tFilter s)):=by
 obtain⟨S,hS⟩:∃S:ByteArray,(⟨s.toArray⟩:ByteArray)=S:=⟨_,rfl⟩;have HS:=zh (show∀w:World,(Calls Tryz.prog 30 #[.string S] w fun e w' =>e= .returned (.bool (tSaid s))∧Keeps w w' [])∧Calls Tryz.prog 47 #[.string S] w (LvPost w s)from fun w=>by
  rw[←hS];exact⟨rSaid_any w s hs,rLevels_any w s hs⟩)
 rw[hS];clear hS
 go_enter Tryz.func48,Tryz.ntmps48
 go_wp2_with fail
 refine(HS.out _).1.mono ?_;rintro e w1 ⟨rfl,hk⟩;have HK:=zh hk;clear hk
 cases hg:tSaid s with
 | false=>
  have HT:=zh (show tFilter s=false by unfold tFilter;rw[hg];rfl);clear hg
  go_wp2_with fail
  go_ret;exact⟨by rw[HT.out];rfl,HK.out⟩
 | true=>
  have HT:=zh (show tFilter s=tOks (tLev s)by unfold tFilter;rw[hg];rfl);clear hg
  go_wp2_with fail
  refine(HS.out _).2.mono ?_;rintro e w2 ⟨A,c,rfl,-,hL,hk⟩;have HK2:=zh (HK.out.then_ hk);have HB:=zh (And.intro (fun y (h:y∈tLev s)=>tLev_size h) (tLev_len s));have hn:(tLev s).length≤60001:=by have:=tLev_len s;omega
  generalize tLev s=l at*
  have HL:=zh hL;clear hk hL HK
  go_wp2_with fail
  go_loop [4] (fun i=>∃k:Nat,k≤l.length∧i= .int .i64 k∧Hid (∀j (h:j < l.length),j < k→tOk l[j] (j+1==l.length)=true)) (fun i=>l.length - (intOf i).toNat)
  case atStart=>exact⟨0,by omega,rfl,zh fun j h h2=>by omega⟩
  case round=>
   obtain⟨k,hk,rfl,HR⟩:=hrel
   by_cases hlt:k < l.length
   ·obtain⟨g,o,rfl,hb,hcx⟩:=HL.out.at_ (k:=k) (by simpa using hlt)
    rw[List.getElem_map]at hcx;obtain⟨y,hy⟩:∃y,l[k]=y:=⟨_,rfl⟩;have HN:=zh (show tOk y (k+1==l.length)=true→∀j (h:j < l.length),j < k+1→tOk l[j] (j+1==l.length)=true from fun hq j h h2=>by
     rcases Nat.lt_or_ge j k with g | g
     ·exact HR.out j h g
     ·obtain rfl:j=k:=by omega
      rw[hy];exact hq)
    have HF:=zh (show tOk y (k+1==l.length)=false→tFilter s=false from fun hq=>by
     rw[HT.out,←Bool.not_eq_true,tOks_at];intro h;have:=h k hlt;rw[hy,hq]at this
     cases this)
    have hyl:y.length≤60000:=by have:=HB.out.1 y (by rw[←hy];exact List.getElem_mem hlt);omega
    rw[hy]at hcx;obtain⟨Y,hY⟩:∃Y:ByteArray,(⟨y.toArray⟩:ByteArray)=Y:=⟨_,rfl⟩;have HG:=zh (show Calls Tryz.prog 31 #[.string Y] w2 fun e w' =>e= .returned (.int .i64 (tSignN y:Nat))∧w2=w' by
     rw[←hY];exact rSigns_any w2 y hyl)
    have eY:Y.toList=y:=by rw[←hY,Lib.toList_data]
    rw[hY]at hcx;clear hy hb
    go_wp2_with fail
    refine HG.out.mono ?_;rintro e w3 ⟨rfl,rfl⟩
    cases hsg:tSign y with
    | false=>
     have h0:=(tSignN_zero y).2 hsg;have HO:=zh (show tOk y (k+1==l.length)=true by unfold tOk;rw[hsg];simp);rw[h0];clear h0 hsg eY hY
     go_wp2_with fail
     exact⟨⟨k+1,by omega,by go_num,zh (HN.out HO.out)⟩,by simp[intOf];omega⟩
    | true=>
     have hpos:0 < tSignN y:=by
      rcases Nat.eq_zero_or_pos (tSignN y)with h | h
      ·rw[(tSignN_zero y).1 h]at hsg;cases hsg
      ·exact h
     obtain⟨q,hq⟩:∃q,tSignN y=q:=⟨_,rfl⟩;rw[hq]at hpos ⊢
     have HO:=zh (show tOk y (k+1==l.length)=(y== [43] || (y== [35] && (k+1==l.length)))by unfold tOk;rw[hsg];simp);clear hq hsg
     by_cases h43:y= [43]
     ·have e43:(Y.toList== [43])=true:=by rw[eY,h43];rfl
      have HP:=zh (HN.out (by rw[HO.out,h43];rfl));clear h43 eY hY
      go_wp2_with fail
      exact⟨⟨k+1,by omega,by go_num,HP⟩,by simp[intOf];omega⟩
     ·have e43:(Y.toList== [43])=false:=by rw[eY];simpa using h43
      have n43:(y== [43])=false:=by simpa using h43
      by_cases h35:y= [35]
      ·have e35:(Y.toList== [35])=true:=by rw[eY,h35];rfl
       by_cases hla:k+1=l.length
       ·have HP:=zh (HN.out (by rw[HO.out,h35,hla];simp))
        have hkl:((k:Int)==l.length - 1)=true:=by rw[beq_iff_eq];omega
        clear h35 eY hY h43 n43
        go_wp2_with fail
        exact⟨⟨k+1,by omega,by go_num,HP⟩,by simp[intOf];omega⟩
       ·have HP:=zh (HF.out (by rw[HO.out,h35];simpa using hla))
        have hkl:((k:Int)==l.length - 1)=false:=by rw[beq_eq_false_iff_ne];omega
        clear h35 eY hY h43 n43
        go_wp2_with fail
        go_ret;exact⟨by rw[HP.out];rfl,HK2.out⟩
      ·have e35:(Y.toList== [35])=false:=by rw[eY];simpa using h35
       have HP:=zh (HF.out (by rw[HO.out,n43,show(y== [35])=false by simpa using h35];rfl));clear h35 eY hY h43 n43
       go_wp2_with fail
       go_ret;exact⟨by rw[HP.out];rfl,HK2.out⟩
   ·obtain rfl:k=l.length:=by omega
    have HP:=zh (show tFilter s=true by rw[HT.out,tOks_at];exact fun j h=>HR.out j h h)
    go_wp2_with fail
    go_ret;exact⟨by rw[HP.out];rfl,HK2.out⟩
end Go.Proofs.YtoadlafdeoklbaaGreatDoor
