/- Package packet: lists of one to eight things that are so; may the other kinds be? Package packet: may the kinds be that have a list, or little? -/
import Derived.Test.YtahbikfbjenfpaaGreatDoorPa16
import Derived.Test.YtahbikfbjenfpaaGreatDoorPa28

namespace Go.Proofs.YtahbikfbjenfpaaGreatDoor
open Go.RowKit

set_option maxRecDepth 100000 in
set_option maxHeartbeats 400000 in
theorem fitOneW (w:World)(bx:Nat)(x:(List UInt8×Int))(q:Bool)(hb:Row w bx 104 #[.func (.func 63) #[] #[]])(HC:∀W,Keeps w W []→Calls Tryz.prog 63 #[.agg #[.string ⟨x.1.toArray⟩,.int .i64 x.2]] W (TruePost W q)):
  Calls Tryz.prog 115 #[.agg #[.string ⟨x.1.toArray⟩,.int .i64 x.2],.pointer (some ⟨bx,0,none⟩)] w (TruePost w (!q)):=by
 have c0:=hb.cell 0;have hlt:=hb.lt;simp only[zga,zgz]at c0;have HC:=zh HC
 go_enter Tryz.func115,Tryz.ntmps115
 go_wp2_with fail
 have HA:=zh (show Keeps w _ []from by first | exact Keeps.alloc w (.cells #[.string ⟨x.1.toArray⟩,.int .i64 x.2] 50) | exact Keeps.refl w _);refine(HC.out _ (by first | exact Keeps.refl _ _ | exact Keeps.alloc _ _)).mono ?_;rintro e w1 ⟨rfl,hk⟩;have HK:=zh hk;clear hk
 go_wp2_with fail
 go_ret;exact⟨rfl,by first | exact HK.out | exact(Keeps.alloc _ _).then_ HK.out⟩
set_option maxRecDepth 100000 in
set_option maxHeartbeats 1000000 in
theorem fitIdxW (w:World)(bx:Nat)(A:Option Addr)(c:Nat)(l:List (List UInt8×Int))(p:(List UInt8×Int)→Bool)(hL:ListG w 2 wantC A l)(hl:l.length≤1000000)
  (HC:∀W,Keeps w W []→∀x∈l,Calls Tryz.prog 115 #[.agg #[.string ⟨x.1.toArray⟩,.int .i64 x.2],.pointer (some ⟨bx,0,none⟩)] W (TruePost W (p x))):
  Calls Tryz.prog 153 #[.slice A l.length c,.func (.func 115) #[] #[.pointer (some ⟨bx,0,none⟩)]] w fun e w' =>e= .returned (.int .i64 (fIdx p l))∧Keeps w w' []:=by
 have HC:=zh HC;have HL:=zh hL;clear hL
 go_enter Tryz.func153,Tryz.ntmps153
 go_wp2_with fail
 go_loopw [8] (fun i wr=>∃j:Nat,j≤l.length∧i= .int .i64 j∧Hid ((l.take j).all (fun x=> !p x)=true∧Keeps w wr [])) (fun i _=>l.length - (intOf i).toNat)
 case atStart=>exact⟨0,by omega,rfl,zh ⟨rfl,Keeps.refl _ _⟩⟩
 case round=>
  obtain⟨j,hj,rfl,HJ⟩:=hrel
  by_cases hjl:j < l.length
  ·obtain⟨b,o,cs,rfl,hr,hc⟩:=HL.out (by omega)
   have hr1:=hr.keeps HJ.out.2;have hc1:=hc j hjl;have HF:=zh (fun h=>fIdx_take (p:=p) (j:=j) hjl HJ.out.1 h);have HCX:=zh (HC.out wr HJ.out.2 l[j] (List.getElem_mem _));have HP:=zh (fun h=>fIdx_found (p:=p) (j:=j) hjl HJ.out.1 h);obtain⟨q,hq⟩:∃q,p l[j]=q:=⟨_,rfl⟩;rw[hq]at HCX HP HF
   generalize l[j]=x at hc1 HCX hq
   clear hq;have m0:=(hr1.cell (o+j*2+0)).trans (hc1 0 (by omega));have m1:=(hr1.cell (o+j*2+1)).trans (hc1 1 (by omega));simp only[wantC,zgz,zgs,Nat.add_zero]at m0 m1;clear hc hc1 hr hr1
   go_wp2_with fail
   refine HCX.out.mono ?_;rintro e w3 ⟨rfl,hk3⟩;have HK:=zh (HJ.out.2.then_ hk3);clear hk3 HCX
   cases q with
   | true=>
    go_wp2_with fail
    go_ret;exact⟨by rw[HP.out (by first | rfl | trivial)];rfl,HK.out⟩
   | false=>
    go_wp2_with fail
    exact⟨⟨j+1,by omega,by go_num,zh ⟨HF.out (by first | rfl | trivial),HK.out⟩⟩,by simp[intOf];omega⟩
  ·obtain rfl:j=l.length:=by omega
   have HN:=zh (fIdx_none (p:=p) (l:=l) (by have:=HJ.out.1;rwa [List.take_length]at this))
   go_wp2_with fail
   go_ret;exact⟨by rw[HN.out];rfl,HJ.out.2⟩
set_option maxRecDepth 100000 in
set_option maxHeartbeats 400000 in
theorem fitAnyW (w:World)(bx:Nat)(A:Option Addr)(c:Nat)(l:List (List UInt8×Int))(p:(List UInt8×Int)→Bool)(hL:ListG w 2 wantC A l)(hl:l.length≤1000000)
  (HC:∀W,Keeps w W []→∀x∈l,Calls Tryz.prog 115 #[.agg #[.string ⟨x.1.toArray⟩,.int .i64 x.2],.pointer (some ⟨bx,0,none⟩)] W (TruePost W (p x))):
  Calls Tryz.prog 114 #[.slice A l.length c,.func (.func 115) #[] #[.pointer (some ⟨bx,0,none⟩)]] w (TruePost w (l.any p)):=by
 have H:=zh (fitIdxW w bx A c l p hL hl HC);have HA:=zh (fIdx_any p l)
 generalize fIdx p l=i at H HA
 clear hL HC;obtain⟨q,hq⟩:∃q,l.any p=q:=⟨_,rfl⟩;rw[hq]at HA ⊢
 have hi:=HA.out
 go_enter Tryz.func114,Tryz.ntmps114
 go_wp2_with fail
 refine H.out.mono ?_;rintro e w1 ⟨rfl,hk⟩;have HK:=zh hk;clear hk
 go_wp2_with fail
 go_ret;exact⟨rfl,HK.out⟩
set_option maxRecDepth 100000 in
set_option maxHeartbeats 400000 in
theorem fitOfW (w:World)(A:Option Addr)(c:Nat)(l:List (List UInt8×Int))(p:(List UInt8×Int)→Bool)(hL:ListG w 2 wantC A l)(hl:l.length≤1000000)
  (HC:∀W,Keeps w W []→∀x∈l,Calls Tryz.prog 63 #[.agg #[.string ⟨x.1.toArray⟩,.int .i64 x.2]] W (TruePost W (p x))):
  Calls Tryz.prog 62 #[.slice A l.length c,.func (.func 63) #[] #[]] w (TruePost w (pkMany l p)):=by
 obtain⟨W0,hW0⟩:∃W0,w.alloc (.cells #[.func (.func 63) #[] #[]] 104)=W0:=⟨_,rfl⟩;have k0:Keeps w W0 []:=by rw[←hW0];exact Keeps.alloc _ _
 have r0:Row W0 w.heap.size 104 #[.func (.func 63) #[] #[]]:=by rw[←hW0];exact Row.new _ _ _
 have HI:=zh (fitAnyW W0 w.heap.size A c l (fun x=> !p x) (hL.keeps k0) hl (fun W hW x hx=>fitOneW W w.heap.size x (p x) (r0.keeps hW) (fun W2 hW2=>HC W2 ((k0.then_ hW).then_ hW2) x hx)));have HK:=zh k0;clear k0 r0 hL;obtain⟨q,hq⟩:∃q,(l.any fun x=> !p x)=q:=⟨_,rfl⟩;rw[hq]at HI;have e:l.all p= !q:=by
  rw[←hq,List.not_any_eq_all_not];simp
 clear hq HC
 by_cases h1:1≤l.length
 ·have d1:decide ((l.length:Int)≥1)=true:=decide_eq_true (by omega)
  by_cases h2:l.length≤8
  ·have d2:decide ((l.length:Int)≤8)=true:=decide_eq_true (by omega)
   have HX:=zh (show pkMany l p= !q by unfold pkMany;rw[decide_eq_true h1,decide_eq_true h2,e];rfl)
   go_enter Tryz.func62,Tryz.ntmps62
   go_wp2_with fail
   refine HI.out.mono ?_;rintro e w1 ⟨rfl,hk⟩;have HK2:=zh hk;clear hk
   go_wp2_with fail
   go_ret;exact⟨by rw[HX.out];rfl,HK.out.then_ HK2.out⟩
  ·have d2:decide ((l.length:Int)≤8)=false:=decide_eq_false (by omega)
   have HX:=zh (show pkMany l p=false by unfold pkMany;rw[decide_eq_false h2];simp)
   go_enter Tryz.func62,Tryz.ntmps62
   go_wp2_with fail
   go_ret;exact⟨by rw[HX.out];rfl,HK.out⟩
 ·have d1:decide ((l.length:Int)≥1)=false:=decide_eq_false (by omega)
  have HX:=zh (show pkMany l p=false by unfold pkMany;rw[decide_eq_false h1];rfl)
  go_enter Tryz.func62,Tryz.ntmps62
  go_wp2_with fail
  go_ret;exact⟨by rw[HX.out];rfl,HK.out⟩
set_option maxRecDepth 100000 in
set_option maxHeartbeats 400000 in
theorem fitOneC (w:World)(bx:Nat)(x:Int)(q:Bool)(hb:Row w bx 103 #[.func (.func 75) #[] #[]])(HC:∀W,Keeps w W []→Calls Tryz.prog 75 #[.int .i64 x] W (TruePost W q)):
  Calls Tryz.prog 122 #[.int .i64 x,.pointer (some ⟨bx,0,none⟩)] w (TruePost w (!q)):=by
 have c0:=hb.cell 0;have hlt:=hb.lt;simp only[zga,zgz]at c0;have HC:=zh HC
 go_enter Tryz.func122,Tryz.ntmps122
 go_wp2_with fail
 have HA:=zh (show Keeps w _ []from by first | exact Keeps.alloc w (.cells #[.string ⟨x.1.toArray⟩,.int .i64 x.2] 50) | exact Keeps.refl w _);refine(HC.out _ (by first | exact Keeps.refl _ _ | exact Keeps.alloc _ _)).mono ?_;rintro e w1 ⟨rfl,hk⟩;have HK:=zh hk;clear hk
 go_wp2_with fail
 go_ret;exact⟨rfl,by first | exact HK.out | exact(Keeps.alloc _ _).then_ HK.out⟩
set_option maxRecDepth 100000 in
set_option maxHeartbeats 1000000 in
theorem fitIdxC (w:World)(bx:Nat)(A:Option Addr)(c:Nat)(l:List Int)(p:Int→Bool)(hL:ListG w 1 intC A l)(hl:l.length≤1000000)
  (HC:∀W,Keeps w W []→∀x∈l,Calls Tryz.prog 122 #[.int .i64 x,.pointer (some ⟨bx,0,none⟩)] W (TruePost W (p x))):
  Calls Tryz.prog 158 #[.slice A l.length c,.func (.func 122) #[] #[.pointer (some ⟨bx,0,none⟩)]] w fun e w' =>e= .returned (.int .i64 (fIdx p l))∧Keeps w w' []:=by
 have HC:=zh HC;have HL:=zh hL;clear hL
 go_enter Tryz.func158,Tryz.ntmps158
 go_wp2_with fail
 go_loopw [8] (fun i wr=>∃j:Nat,j≤l.length∧i= .int .i64 j∧Hid ((l.take j).all (fun x=> !p x)=true∧Keeps w wr [])) (fun i _=>l.length - (intOf i).toNat)
 case atStart=>exact⟨0,by omega,rfl,zh ⟨rfl,Keeps.refl _ _⟩⟩
 case round=>
  obtain⟨j,hj,rfl,HJ⟩:=hrel
  by_cases hjl:j < l.length
  ·obtain⟨b,o,cs,rfl,hr,hc⟩:=HL.out (by omega)
   have hr1:=hr.keeps HJ.out.2;have hc1:=hc j hjl;have HF:=zh (fun h=>fIdx_take (p:=p) (j:=j) hjl HJ.out.1 h);have HCX:=zh (HC.out wr HJ.out.2 l[j] (List.getElem_mem _));have HP:=zh (fun h=>fIdx_found (p:=p) (j:=j) hjl HJ.out.1 h);obtain⟨q,hq⟩:∃q,p l[j]=q:=⟨_,rfl⟩;rw[hq]at HCX HP HF
   generalize l[j]=x at hc1 HCX hq
   clear hq;have m0:=(hr1.cell (o+j*1+0)).trans (hc1 0 (by omega));simp only[intC,zgz,Nat.mul_one,Nat.add_zero]at m0;clear hc hc1 hr hr1
   go_wp2_with fail
   refine HCX.out.mono ?_;rintro e w3 ⟨rfl,hk3⟩;have HK:=zh (HJ.out.2.then_ hk3);clear hk3 HCX
   cases q with
   | true=>
    go_wp2_with fail
    go_ret;exact⟨by rw[HP.out (by first | rfl | trivial)];rfl,HK.out⟩
   | false=>
    go_wp2_with fail
    exact⟨⟨j+1,by omega,by go_num,zh ⟨HF.out (by first | rfl | trivial),HK.out⟩⟩,by simp[intOf];omega⟩
  ·obtain rfl:j=l.length:=by omega
   have HN:=zh (fIdx_none (p:=p) (l:=l) (by have:=HJ.out.1;rwa [List.take_length]at this))
   go_wp2_with fail
   go_ret;exact⟨by rw[HN.out];rfl,HJ.out.2⟩
set_option maxRecDepth 100000 in
set_option maxHeartbeats 400000 in
theorem fitAnyC (w:World)(bx:Nat)(A:Option Addr)(c:Nat)(l:List Int)(p:Int→Bool)(hL:ListG w 1 intC A l)(hl:l.length≤1000000)
  (HC:∀W,Keeps w W []→∀x∈l,Calls Tryz.prog 122 #[.int .i64 x,.pointer (some ⟨bx,0,none⟩)] W (TruePost W (p x))):
  Calls Tryz.prog 121 #[.slice A l.length c,.func (.func 122) #[] #[.pointer (some ⟨bx,0,none⟩)]] w (TruePost w (l.any p)):=by
 have H:=zh (fitIdxC w bx A c l p hL hl HC);have HA:=zh (fIdx_any p l)
 generalize fIdx p l=i at H HA
 clear hL HC;obtain⟨q,hq⟩:∃q,l.any p=q:=⟨_,rfl⟩;rw[hq]at HA ⊢
 have hi:=HA.out
 go_enter Tryz.func121,Tryz.ntmps121
 go_wp2_with fail
 refine H.out.mono ?_;rintro e w1 ⟨rfl,hk⟩;have HK:=zh hk;clear hk
 go_wp2_with fail
 go_ret;exact⟨rfl,HK.out⟩
set_option maxRecDepth 100000 in
set_option maxHeartbeats 400000 in
theorem fitOfC (w:World)(A:Option Addr)(c:Nat)(l:List Int)(p:Int→Bool)(hL:ListG w 1 intC A l)(hl:l.length≤1000000)
  (HC:∀W,Keeps w W []→∀x∈l,Calls Tryz.prog 75 #[.int .i64 x] W (TruePost W (p x))):
  Calls Tryz.prog 74 #[.slice A l.length c,.func (.func 75) #[] #[]] w (TruePost w (pkMany l p)):=by
 obtain⟨W0,hW0⟩:∃W0,w.alloc (.cells #[.func (.func 75) #[] #[]] 103)=W0:=⟨_,rfl⟩;have k0:Keeps w W0 []:=by rw[←hW0];exact Keeps.alloc _ _
 have r0:Row W0 w.heap.size 103 #[.func (.func 75) #[] #[]]:=by rw[←hW0];exact Row.new _ _ _
 have HI:=zh (fitAnyC W0 w.heap.size A c l (fun x=> !p x) (hL.keeps k0) hl (fun W hW x hx=>fitOneC W w.heap.size x (p x) (r0.keeps hW) (fun W2 hW2=>HC W2 ((k0.then_ hW).then_ hW2) x hx)));have HK:=zh k0;clear k0 r0 hL;obtain⟨q,hq⟩:∃q,(l.any fun x=> !p x)=q:=⟨_,rfl⟩;rw[hq]at HI;have e:l.all p= !q:=by
  rw[←hq,List.not_any_eq_all_not];simp
 clear hq HC
 by_cases h1:1≤l.length
 ·have d1:decide ((l.length:Int)≥1)=true:=decide_eq_true (by omega)
  by_cases h2:l.length≤8
  ·have d2:decide ((l.length:Int)≤8)=true:=decide_eq_true (by omega)
   have HX:=zh (show pkMany l p= !q by unfold pkMany;rw[decide_eq_true h1,decide_eq_true h2,e];rfl)
   go_enter Tryz.func74,Tryz.ntmps74
   go_wp2_with fail
   refine HI.out.mono ?_;rintro e w1 ⟨rfl,hk⟩;have HK2:=zh hk;clear hk
   go_wp2_with fail
   go_ret;exact⟨by rw[HX.out];rfl,HK.out.then_ HK2.out⟩
  ·have d2:decide ((l.length:Int)≤8)=false:=decide_eq_false (by omega)
   have HX:=zh (show pkMany l p=false by unfold pkMany;rw[decide_eq_false h2];simp)
   go_enter Tryz.func74,Tryz.ntmps74
   go_wp2_with fail
   go_ret;exact⟨by rw[HX.out];rfl,HK.out⟩
 ·have d1:decide ((l.length:Int)≥1)=false:=decide_eq_false (by omega)
  have HX:=zh (show pkMany l p=false by unfold pkMany;rw[decide_eq_false h1];rfl)
  go_enter Tryz.func74,Tryz.ntmps74
  go_wp2_with fail
  go_ret;exact⟨by rw[HX.out];rfl,HK.out⟩
set_option maxRecDepth 100000 in
set_option maxHeartbeats 400000 in
theorem fitOneF (w:World)(bx:Nat)(x:(List UInt8))(q:Bool)(hb:Row w bx 64 #[.func (.func 64) #[] #[]])(HC:∀W,Keeps w W []→Calls Tryz.prog 64 #[.string ⟨x.toArray⟩] W (TruePost W q)):
  Calls Tryz.prog 124 #[.string ⟨x.toArray⟩,.pointer (some ⟨bx,0,none⟩)] w (TruePost w (!q)):=by
 have c0:=hb.cell 0;have hlt:=hb.lt;simp only[zga,zgz]at c0;have HC:=zh HC
 go_enter Tryz.func124,Tryz.ntmps124
 go_wp2_with fail
 have HA:=zh (show Keeps w _ []from by first | exact Keeps.alloc w (.cells #[.string ⟨x.1.toArray⟩,.int .i64 x.2] 50) | exact Keeps.refl w _);refine(HC.out _ (by first | exact Keeps.refl _ _ | exact Keeps.alloc _ _)).mono ?_;rintro e w1 ⟨rfl,hk⟩;have HK:=zh hk;clear hk
 go_wp2_with fail
 go_ret;exact⟨rfl,by first | exact HK.out | exact(Keeps.alloc _ _).then_ HK.out⟩
set_option maxRecDepth 100000 in
set_option maxHeartbeats 1000000 in
theorem fitIdxF (w:World)(bx:Nat)(A:Option Addr)(c:Nat)(l:List (List UInt8))(p:(List UInt8)→Bool)(hL:ListG w 1 txtV A l)(hl:l.length≤1000000)
  (HC:∀W,Keeps w W []→∀x∈l,Calls Tryz.prog 124 #[.string ⟨x.toArray⟩,.pointer (some ⟨bx,0,none⟩)] W (TruePost W (p x))):
  Calls Tryz.prog 159 #[.slice A l.length c,.func (.func 124) #[] #[.pointer (some ⟨bx,0,none⟩)]] w fun e w' =>e= .returned (.int .i64 (fIdx p l))∧Keeps w w' []:=by
 have HC:=zh HC;have HL:=zh hL;clear hL
 go_enter Tryz.func159,Tryz.ntmps159
 go_wp2_with fail
 go_loopw [8] (fun i wr=>∃j:Nat,j≤l.length∧i= .int .i64 j∧Hid ((l.take j).all (fun x=> !p x)=true∧Keeps w wr [])) (fun i _=>l.length - (intOf i).toNat)
 case atStart=>exact⟨0,by omega,rfl,zh ⟨rfl,Keeps.refl _ _⟩⟩
 case round=>
  obtain⟨j,hj,rfl,HJ⟩:=hrel
  by_cases hjl:j < l.length
  ·obtain⟨b,o,cs,rfl,hr,hc⟩:=HL.out (by omega)
   have hr1:=hr.keeps HJ.out.2;have hc1:=hc j hjl;have HF:=zh (fun h=>fIdx_take (p:=p) (j:=j) hjl HJ.out.1 h);have HCX:=zh (HC.out wr HJ.out.2 l[j] (List.getElem_mem _));have HP:=zh (fun h=>fIdx_found (p:=p) (j:=j) hjl HJ.out.1 h);obtain⟨q,hq⟩:∃q,p l[j]=q:=⟨_,rfl⟩;rw[hq]at HCX HP HF
   generalize l[j]=x at hc1 HCX hq
   clear hq;have m0:=(hr1.cell (o+j*1+0)).trans (hc1 0 (by omega));simp only[txtV,zgz,Nat.mul_one,Nat.add_zero]at m0;clear hc hc1 hr hr1
   go_wp2_with fail
   refine HCX.out.mono ?_;rintro e w3 ⟨rfl,hk3⟩;have HK:=zh (HJ.out.2.then_ hk3);clear hk3 HCX
   cases q with
   | true=>
    go_wp2_with fail
    go_ret;exact⟨by rw[HP.out (by first | rfl | trivial)];rfl,HK.out⟩
   | false=>
    go_wp2_with fail
    exact⟨⟨j+1,by omega,by go_num,zh ⟨HF.out (by first | rfl | trivial),HK.out⟩⟩,by simp[intOf];omega⟩
  ·obtain rfl:j=l.length:=by omega
   have HN:=zh (fIdx_none (p:=p) (l:=l) (by have:=HJ.out.1;rwa [List.take_length]at this))
   go_wp2_with fail
   go_ret;exact⟨by rw[HN.out];rfl,HJ.out.2⟩
set_option maxRecDepth 100000 in
set_option maxHeartbeats 400000 in
theorem fitAnyF (w:World)(bx:Nat)(A:Option Addr)(c:Nat)(l:List (List UInt8))(p:(List UInt8)→Bool)(hL:ListG w 1 txtV A l)(hl:l.length≤1000000)
  (HC:∀W,Keeps w W []→∀x∈l,Calls Tryz.prog 124 #[.string ⟨x.toArray⟩,.pointer (some ⟨bx,0,none⟩)] W (TruePost W (p x))):
  Calls Tryz.prog 123 #[.slice A l.length c,.func (.func 124) #[] #[.pointer (some ⟨bx,0,none⟩)]] w (TruePost w (l.any p)):=by
 have H:=zh (fitIdxF w bx A c l p hL hl HC);have HA:=zh (fIdx_any p l)
 generalize fIdx p l=i at H HA
 clear hL HC;obtain⟨q,hq⟩:∃q,l.any p=q:=⟨_,rfl⟩;rw[hq]at HA ⊢
 have hi:=HA.out
 go_enter Tryz.func123,Tryz.ntmps123
 go_wp2_with fail
 refine H.out.mono ?_;rintro e w1 ⟨rfl,hk⟩;have HK:=zh hk;clear hk
 go_wp2_with fail
 go_ret;exact⟨rfl,HK.out⟩
set_option maxRecDepth 100000 in
set_option maxHeartbeats 400000 in
theorem fitOfF (w:World)(A:Option Addr)(c:Nat)(l:List (List UInt8))(p:(List UInt8)→Bool)(hL:ListG w 1 txtV A l)(hl:l.length≤1000000)
  (HC:∀W,Keeps w W []→∀x∈l,Calls Tryz.prog 64 #[.string ⟨x.toArray⟩] W (TruePost W (p x))):
  Calls Tryz.prog 82 #[.slice A l.length c,.func (.func 64) #[] #[]] w (TruePost w (pkMany l p)):=by
 obtain⟨W0,hW0⟩:∃W0,w.alloc (.cells #[.func (.func 64) #[] #[]] 64)=W0:=⟨_,rfl⟩;have k0:Keeps w W0 []:=by rw[←hW0];exact Keeps.alloc _ _
 have r0:Row W0 w.heap.size 64 #[.func (.func 64) #[] #[]]:=by rw[←hW0];exact Row.new _ _ _
 have HI:=zh (fitAnyF W0 w.heap.size A c l (fun x=> !p x) (hL.keeps k0) hl (fun W hW x hx=>fitOneF W w.heap.size x (p x) (r0.keeps hW) (fun W2 hW2=>HC W2 ((k0.then_ hW).then_ hW2) x hx)));have HK:=zh k0;clear k0 r0 hL;obtain⟨q,hq⟩:∃q,(l.any fun x=> !p x)=q:=⟨_,rfl⟩;rw[hq]at HI;have e:l.all p= !q:=by
  rw[←hq,List.not_any_eq_all_not];simp
 clear hq HC
 by_cases h1:1≤l.length
 ·have d1:decide ((l.length:Int)≥1)=true:=decide_eq_true (by omega)
  by_cases h2:l.length≤8
  ·have d2:decide ((l.length:Int)≤8)=true:=decide_eq_true (by omega)
   have HX:=zh (show pkMany l p= !q by unfold pkMany;rw[decide_eq_true h1,decide_eq_true h2,e];rfl)
   go_enter Tryz.func82,Tryz.ntmps82
   go_wp2_with fail
   refine HI.out.mono ?_;rintro e w1 ⟨rfl,hk⟩;have HK2:=zh hk;clear hk
   go_wp2_with fail
   go_ret;exact⟨by rw[HX.out];rfl,HK.out.then_ HK2.out⟩
  ·have d2:decide ((l.length:Int)≤8)=false:=decide_eq_false (by omega)
   have HX:=zh (show pkMany l p=false by unfold pkMany;rw[decide_eq_false h2];simp)
   go_enter Tryz.func82,Tryz.ntmps82
   go_wp2_with fail
   go_ret;exact⟨by rw[HX.out];rfl,HK.out⟩
 ·have d1:decide ((l.length:Int)≥1)=false:=decide_eq_false (by omega)
  have HX:=zh (show pkMany l p=false by unfold pkMany;rw[decide_eq_false h1];rfl)
  go_enter Tryz.func82,Tryz.ntmps82
  go_wp2_with fail
  go_ret;exact⟨by rw[HX.out];rfl,HK.out⟩

theorem pkWant_any (x:List UInt8×Int)(w:World)(hx:x.1.length≤50000)(hm:MaxL w):Calls Tryz.prog 63 #[.agg #[.string ⟨x.1.toArray⟩,.int .i64 x.2]] w (TruePost w (tFilter x.1 && pkIn x.2 0 2)):=by
 obtain⟨f,n⟩:=x;obtain⟨W0,hW0⟩:∃W0,w.alloc (.cells #[.string ⟨f.toArray⟩,.int .i64 n] 50)=W0:=⟨_,rfl⟩;have k0:Keeps w W0 []:=by rw[←hW0];exact Keeps.alloc _ _
 have r0:Row W0 w.heap.size 50 #[.string ⟨f.toArray⟩,.int .i64 n]:=by rw[←hW0];exact Row.new _ _ _
 have HF:=zh (tFilt_any W0 f hx (hm.keeps k0));have x0:=r0.cell 0;have x1:=r0.cell 1;simp only[zga,zgz,zgs]at x0 x1;have HR:=zh (And.intro k0 r0);clear k0 r0;simp only
 generalize tFilter f=a at HF ⊢
 go_enter Tryz.func63,Tryz.ntmps63
 go_wp2_with fail
 refine HF.out.mono ?_;rintro e w1 ⟨rfl,hk⟩;have r1:=HR.out.2.keeps hk;have HK:=zh (HR.out.1.then_ hk);clear hk x0 x1;have x0:=r1.cell 0;have x1:=r1.cell 1;simp only[zga,zgz,zgs]at x0 x1;clear r1
 cases a with
 | true=>
  go_wp2_with fail
  refine(pkQos_any n _).mono ?_;rintro e w2 ⟨rfl,hk⟩;have HK2:=zh (HK.out.then_ hk);clear hk
  go_wp2_with fail
  go_ret;exact⟨rfl,HK2.out⟩
 | false=>
  go_wp2_with fail
  go_ret;exact⟨rfl,HK.out⟩
theorem pkCode_any (n:Int)(w:World):Calls Tryz.prog 75 #[.int .i64 n] w (TruePost w (pkIn n 0 2 || n==128)):=by
 have HQ:=zh (pkQos_any n w)
 generalize pkIn n 0 2=a at HQ ⊢
 obtain⟨z,hz⟩:∃z,(n==128)=z:=⟨_,rfl⟩;rw[hz]
 go_enter Tryz.func75,Tryz.ntmps75
 go_wp2_with fail
 refine HQ.out.mono ?_;rintro e w1 ⟨rfl,hk⟩;have HK:=zh hk;clear hk
 cases a with
 | true=>
  go_wp2_with fail
  go_ret;exact⟨rfl,HK.out⟩
 | false=>
  go_wp2_with fail
  go_ret;exact⟨rfl,HK.out⟩
set_option maxRecDepth 100000 in
theorem pkMayNone (p:Pk)(sw sc sf:Value)(w:World):Calls Tryz.prog 48 #[pkV p sw sc sf] w (TruePost w true):=by
 obtain⟨k,dup,ret,q,t,b,id,c,cl,keep,hw,wt,wb,wq,wr,hu,hp,u,pw,pr,code,wants,codes,fs⟩:=p
 go_enter Tryz.func48,Tryz.ntmps48
 go_wp2_with fail
 go_ret;exact⟨rfl,Keeps.alloc _ _⟩
set_option maxRecDepth 100000 in
theorem pkMayAns (p:Pk)(sw sc sf:Value)(w:World):Calls Tryz.prog 140 #[pkV p sw sc sf] w (TruePost w true):=by
 obtain⟨k,dup,ret,q,t,b,id,c,cl,keep,hw,wt,wb,wq,wr,hu,hp,u,pw,pr,code,wants,codes,fs⟩:=p
 go_enter Tryz.func140,Tryz.ntmps140
 go_wp2_with fail
 go_ret;exact⟨rfl,Keeps.alloc _ _⟩
set_option maxRecDepth 100000 in
set_option maxHeartbeats 1000000 in
theorem pkMayF8 (p:Pk)(sw sc sf:Value)(w:World)(q:Bool)(HC:∀W,Keeps w W []→Calls Tryz.prog 62 #[sw,.func (.func 63) #[] #[]] W (TruePost W q)):Calls Tryz.prog 61 #[pkV p sw sc sf] w (TruePost w q):=by
 obtain⟨k,dup,ret,q,t,b,id,c,cl,keep,hw,wt,wb,wq,wr,hu,hp,u,pw,pr,code,wants,codes,fs⟩:=p;obtain⟨W0,hW0⟩:∃W,(w).alloc (.cells (zP k dup ret q t b id c cl keep hw wt wb wq wr hu hp u pw pr code sw sc sf) 29)=W:=⟨_,rfl⟩;have k0:Keeps (w) W0 []:=by rw[←hW0];exact Keeps.alloc _ _
 have r0:Row W0 (w).heap.size 29 (zP k dup ret q t b id c cl keep hw wt wb wq wr hu hp u pw pr code sw sc sf):=by rw[←hW0];exact Row.new _ _ _
 have x0:=r0.cell 0;have x1:=r0.cell 1;have x2:=r0.cell 2;have x3:=r0.cell 3;have x4:=r0.cell 4;have x5:=r0.cell 5;have x6:=r0.cell 6;have x7:=r0.cell 7;have x8:=r0.cell 8;have x9:=r0.cell 9;have x10:=r0.cell 10;have x11:=r0.cell 11;have x12:=r0.cell 12;have x13:=r0.cell 13;have x14:=r0.cell 14;have x15:=r0.cell 15;have x16:=r0.cell 16;have x17:=r0.cell 17;have x18:=r0.cell 18;have x19:=r0.cell 19;have x20:=r0.cell 20;have x21:=r0.cell 21;have x22:=r0.cell 22;have x23:=r0.cell 23;simp only[zga,zgz,zgs]at x0 x1 x2 x3 x4 x5 x6 x7 x8 x9 x10 x11 x12 x13 x14 x15 x16 x17 x18 x19 x20 x21 x22 x23;have HF:=zh (HC W0 k0);have HK:=zh k0;clear k0 r0 HC
 go_enter Tryz.func61,Tryz.ntmps61
 go_wp2_with fail
 refine HF.out.mono ?_;rintro e w1 ⟨rfl,hk⟩;have HK1:=zh (HK.out.then_ hk);clear hk;clear x0 x1 x2 x3 x4 x5 x6 x7 x8 x9 x10 x11 x12 x13 x14 x15 x16 x17 x18 x19 x20 x21 x22 x23
 go_wp2_with fail
 go_ret;exact⟨rfl,HK1.out⟩
set_option maxRecDepth 100000 in
set_option maxHeartbeats 1000000 in
theorem pkMayF9 (p:Pk)(sw sc sf:Value)(w:World)(q:Bool)(HC:∀W,Keeps w W []→Calls Tryz.prog 74 #[sc,.func (.func 75) #[] #[]] W (TruePost W q)):Calls Tryz.prog 73 #[pkV p sw sc sf] w (TruePost w q):=by
 obtain⟨k,dup,ret,q,t,b,id,c,cl,keep,hw,wt,wb,wq,wr,hu,hp,u,pw,pr,code,wants,codes,fs⟩:=p;obtain⟨W0,hW0⟩:∃W,(w).alloc (.cells (zP k dup ret q t b id c cl keep hw wt wb wq wr hu hp u pw pr code sw sc sf) 29)=W:=⟨_,rfl⟩;have k0:Keeps (w) W0 []:=by rw[←hW0];exact Keeps.alloc _ _
 have r0:Row W0 (w).heap.size 29 (zP k dup ret q t b id c cl keep hw wt wb wq wr hu hp u pw pr code sw sc sf):=by rw[←hW0];exact Row.new _ _ _
 have x0:=r0.cell 0;have x1:=r0.cell 1;have x2:=r0.cell 2;have x3:=r0.cell 3;have x4:=r0.cell 4;have x5:=r0.cell 5;have x6:=r0.cell 6;have x7:=r0.cell 7;have x8:=r0.cell 8;have x9:=r0.cell 9;have x10:=r0.cell 10;have x11:=r0.cell 11;have x12:=r0.cell 12;have x13:=r0.cell 13;have x14:=r0.cell 14;have x15:=r0.cell 15;have x16:=r0.cell 16;have x17:=r0.cell 17;have x18:=r0.cell 18;have x19:=r0.cell 19;have x20:=r0.cell 20;have x21:=r0.cell 21;have x22:=r0.cell 22;have x23:=r0.cell 23;simp only[zga,zgz,zgs]at x0 x1 x2 x3 x4 x5 x6 x7 x8 x9 x10 x11 x12 x13 x14 x15 x16 x17 x18 x19 x20 x21 x22 x23;have HF:=zh (HC W0 k0);have HK:=zh k0;clear k0 r0 HC
 go_enter Tryz.func73,Tryz.ntmps73
 go_wp2_with fail
 refine HF.out.mono ?_;rintro e w1 ⟨rfl,hk⟩;have HK1:=zh (HK.out.then_ hk);clear hk;clear x0 x1 x2 x3 x4 x5 x6 x7 x8 x9 x10 x11 x12 x13 x14 x15 x16 x17 x18 x19 x20 x21 x22 x23
 go_wp2_with fail
 go_ret;exact⟨rfl,HK1.out⟩
set_option maxRecDepth 100000 in
set_option maxHeartbeats 1000000 in
theorem pkMayF10 (p:Pk)(sw sc sf:Value)(w:World)(q:Bool)(HC:∀W,Keeps w W []→Calls Tryz.prog 82 #[sf,.func (.func 64) #[] #[]] W (TruePost W q)):Calls Tryz.prog 81 #[pkV p sw sc sf] w (TruePost w q):=by
 obtain⟨k,dup,ret,q,t,b,id,c,cl,keep,hw,wt,wb,wq,wr,hu,hp,u,pw,pr,code,wants,codes,fs⟩:=p;obtain⟨W0,hW0⟩:∃W,(w).alloc (.cells (zP k dup ret q t b id c cl keep hw wt wb wq wr hu hp u pw pr code sw sc sf) 29)=W:=⟨_,rfl⟩;have k0:Keeps (w) W0 []:=by rw[←hW0];exact Keeps.alloc _ _
 have r0:Row W0 (w).heap.size 29 (zP k dup ret q t b id c cl keep hw wt wb wq wr hu hp u pw pr code sw sc sf):=by rw[←hW0];exact Row.new _ _ _
 have x0:=r0.cell 0;have x1:=r0.cell 1;have x2:=r0.cell 2;have x3:=r0.cell 3;have x4:=r0.cell 4;have x5:=r0.cell 5;have x6:=r0.cell 6;have x7:=r0.cell 7;have x8:=r0.cell 8;have x9:=r0.cell 9;have x10:=r0.cell 10;have x11:=r0.cell 11;have x12:=r0.cell 12;have x13:=r0.cell 13;have x14:=r0.cell 14;have x15:=r0.cell 15;have x16:=r0.cell 16;have x17:=r0.cell 17;have x18:=r0.cell 18;have x19:=r0.cell 19;have x20:=r0.cell 20;have x21:=r0.cell 21;have x22:=r0.cell 22;have x23:=r0.cell 23;simp only[zga,zgz,zgs]at x0 x1 x2 x3 x4 x5 x6 x7 x8 x9 x10 x11 x12 x13 x14 x15 x16 x17 x18 x19 x20 x21 x22 x23;have HF:=zh (HC W0 k0);have HK:=zh k0;clear k0 r0 HC
 go_enter Tryz.func81,Tryz.ntmps81
 go_wp2_with fail
 refine HF.out.mono ?_;rintro e w1 ⟨rfl,hk⟩;have HK1:=zh (HK.out.then_ hk);clear hk;clear x0 x1 x2 x3 x4 x5 x6 x7 x8 x9 x10 x11 x12 x13 x14 x15 x16 x17 x18 x19 x20 x21 x22 x23
 go_wp2_with fail
 go_ret;exact⟨rfl,HK1.out⟩
/-- What a list's kind may be, but for its ID. -/
def pkMayL (p:Pk):Bool:=if p.k=8 then pkMany p.wants fun w=>tFilter w.1 && pkIn w.2 0 2 else if p.k=9 then pkMany p.codes fun c=>pkIn c 0 2 || c==128 else if p.k=10 then pkMany p.fs tFilter else true
theorem pkMayL_eq {p:Pk}(h:4≤p.k∧p.k≤11):pkMay p=(pkId p && pkMayL p):=by
 unfold pkMay pkMayL;rw[if_neg (by omega),if_neg (by omega),if_neg (by omega)]
 split
 ·rfl
 ·split
  ·rfl
  ·split
   ·rfl
   ·rw[if_neg (by omega),Bool.and_true]
theorem pkMay8_any (p:Pk)(sw sc sf:Value)(w:World)(hk:p.k=8)(hs:PkSm p)(hl:PkL w p sw sc sf)(hm:MaxL w):Calls Tryz.prog 61 #[pkV p sw sc sf] w (TruePost w (pkMayL p)):=by
 have e:pkMayL p=pkMany p.wants fun w=>tFilter w.1 && pkIn w.2 0 2:=by unfold pkMayL;rw[if_pos hk]
 rw[e];obtain⟨A,c,rfl,h1⟩:=hl.lw;exact pkMayF8 p _ sc sf w _ fun W hW=>fitOfW W A c p.wants _ (h1.keeps hW) (by have:=hs.wants.1;omega) fun W2 hW2 x hx=>pkWant_any x W2 (hs.wants.2 x hx) ((hm.keeps hW).keeps hW2)
theorem pkMay9_any (p:Pk)(sw sc sf:Value)(w:World)(hk:p.k=9)(hs:PkSm p)(hl:PkL w p sw sc sf):Calls Tryz.prog 73 #[pkV p sw sc sf] w (TruePost w (pkMayL p)):=by
 have e:pkMayL p=pkMany p.codes fun c=>pkIn c 0 2 || c==128:=by unfold pkMayL;rw[if_neg (by omega),if_pos hk]
 rw[e];obtain⟨A,c,rfl,h1⟩:=hl.lc;exact pkMayF9 p sw _ sf w _ fun W hW=>fitOfC W A c p.codes _ (h1.keeps hW) (by have:=hs.codes;omega) fun W2 _ x _=>pkCode_any x W2
theorem pkMay10_any (p:Pk)(sw sc sf:Value)(w:World)(hk:p.k=10)(hs:PkSm p)(hl:PkL w p sw sc sf)(hm:MaxL w):Calls Tryz.prog 81 #[pkV p sw sc sf] w (TruePost w (pkMayL p)):=by
 have e:pkMayL p=pkMany p.fs tFilter:=by unfold pkMayL;rw[if_neg (by omega),if_neg (by omega),if_pos hk]
 rw[e];obtain⟨A,c,rfl,h1⟩:=hl.lf;exact pkMayF10 p sw sc _ w _ fun W hW=>fitOfF W A c p.fs _ (h1.keeps hW) (by have:=hs.fs.1;omega) fun W2 hW2 x hx=>tFilt_any W2 x (hs.fs.2 x hx) ((hm.keeps hW).keeps hW2)
theorem pkMay4_any (p:Pk)(sw sc sf:Value)(w:World)(hk:p.k=4∨p.k=5∨p.k=6∨p.k=7∨p.k=11):Calls Tryz.prog 140 #[pkV p sw sc sf] w (TruePost w (pkMayL p)):=by
 have e:pkMayL p=true:=by unfold pkMayL;rw[if_neg (by omega),if_neg (by omega),if_neg (by omega)]
 rw[e];exact pkMayAns p sw sc sf w
set_option maxRecDepth 100000 in
set_option maxHeartbeats 1000000 in
/-- A kind that has an ID. -/
theorem pkMayList_any (p:Pk)(sw sc sf:Value)(w:World)(i:FuncId)(bx:Nat)(hk:4≤p.k∧p.k≤11)(hr:∀(args:Array Value) (w:World),(callFunc i args).run Tryz.prog w= .ok (.enter i args) w)(hb:Row w bx 30 #[.func (.func i) #[] #[]])(HC:∀W,Keeps w W []→Calls Tryz.prog i #[pkV p sw sc sf] W (TruePost W (pkMayL p))):
  Calls Tryz.prog 109 #[pkV p sw sc sf,.pointer (some ⟨bx,0,none⟩)] w (TruePost w (pkMay p)):=by
 rw[pkMayL_eq hk];clear hk;have HI:=zh (fun W=>pkWithin_any p.id 1 65535 W);have HC:=zh HC;obtain⟨a,ha⟩:∃a,pkId p=a:=⟨_,rfl⟩;have ha2:pkIn p.id 1 65535=a:=ha;rw[ha];rw[ha2]at HI;clear ha ha2
 generalize pkMayL p=b2 at HC ⊢
 obtain⟨k,dup,ret,q,t,b,id,c,cl,keep,hw,wt,wb,wq,wr,hu,hp,u,pw,pr,code,wants,codes,fs⟩:=p;simp only at HI;obtain⟨W0,hW0⟩:∃W,(w).alloc (.cells (zP k dup ret q t b id c cl keep hw wt wb wq wr hu hp u pw pr code sw sc sf) 29)=W:=⟨_,rfl⟩;have k0:Keeps (w) W0 []:=by rw[←hW0];exact Keeps.alloc _ _
 have r0:Row W0 (w).heap.size 29 (zP k dup ret q t b id c cl keep hw wt wb wq wr hu hp u pw pr code sw sc sf):=by rw[←hW0];exact Row.new _ _ _
 have HP:=zh r0;have HK:=zh k0;have HB:=zh (hb.keeps k0);clear k0 r0 hb
 go_enter Tryz.func109,Tryz.ntmps109
 go_upto_region 1 with fail
 clear hW0
 cases a with
 | true=>
  refine wp_region_line KeepsAll _ 8 rfl (by kernel_rfl) (by kernel_rfl) (fun _=>Keeps.refl _ _) (fun _ _ _ h k=>h.trans k (by simp)) ?_;simp only[zts,ztz,zds,zdz];refine lq (.pointer (some ⟨w.heap.size,6,none⟩)) ?_;refine ll 2 (.tmp 4) (⟨w.heap.size,6,none⟩) (.int .i64 id) (fun W hW=>((HP.out.keeps hW).cell 6).trans (by kernel_rfl)) ?_;refine loose_qc 52 (#[.int .i64 id,.int .i64 1,.int .i64 65535]) (.bool true) (fun _=>by kernel_rfl) (fun _ _=>by kernel_rfl) (fun W hW=>HI.out W) ?_;refine lq (.bool true) ?_;refine ll 30 (.tmp 1) (⟨bx,0,none⟩) (.func (.func i) #[] #[]) (fun W hW=>((HB.out.keeps hW).cell 0).trans (by kernel_rfl)) ?_;refine lw 29 (.tmp 2) (w.heap.size) ((zL k dup ret q t b id c cl keep hw wt wb wq wr hu hp u pw pr code sw sc sf)) Tryz.underlying29 (fun W hW=>range_row (HP.out.keeps hW)) ?_;refine loose_qv i (#[]) (#[.agg (zP k dup ret q t b id c cl keep hw wt wb wq wr hu hp u pw pr code sw sc sf)]) (#[.agg (zP k dup ret q t b id c cl keep hw wt wb wq wr hu hp u pw pr code sw sc sf)]) (.bool b2) (by first | rfl | simp) rfl hr (fun _=>by kernel_rfl) (fun _ _=>by kernel_rfl) (fun W hW=>HC.out W (HK.out.then_ hW)) ?_;refine lq (.bool b2) ?_;refine loose_nil (fun W vals hW hkn=> ?_);simp only[addEnt,knowsAll]at hkn
  try simp only[and_true]at hkn
  simp only[addEnt,fill,Act.put,zsa,zsc,zsz]
  go_wp2_with fail
  go_ret;exact⟨rfl,HK.out.then_ hW⟩
 | false=>
  refine wp_region_line KeepsAll _ 8 rfl (by kernel_rfl) (by kernel_rfl) (fun _=>Keeps.refl _ _) (fun _ _ _ h k=>h.trans k (by simp)) ?_;simp only[zts,ztz,zds,zdz];refine lq (.pointer (some ⟨w.heap.size,6,none⟩)) ?_;refine ll 2 (.tmp 4) (⟨w.heap.size,6,none⟩) (.int .i64 id) (fun W hW=>((HP.out.keeps hW).cell 6).trans (by kernel_rfl)) ?_;refine loose_qc 52 (#[.int .i64 id,.int .i64 1,.int .i64 65535]) (.bool false) (fun _=>by kernel_rfl) (fun _ _=>by kernel_rfl) (fun W hW=>HI.out W) ?_;refine lq (.bool false) ?_
  iterate 3
   refine lo ?_
  refine lq (.bool false) ?_;refine loose_nil (fun W vals hW hkn=> ?_);simp only[addEnt,knowsAll]at hkn
  try simp only[and_true]at hkn
  simp only[addEnt,fill,Act.put,zsa,zsc,zsz]
  go_wp2_with fail
  go_ret;exact⟨rfl,HK.out.then_ hW⟩
set_option maxRecDepth 100000 in
set_option maxHeartbeats 1000000 in
theorem pkMay2_any (p:Pk)(sw sc sf:Value)(w:World)(hk:p.k=2):Calls Tryz.prog 51 #[pkV p sw sc sf] w (TruePost w (pkMay p)):=by
 have HX:=zh (show pkMay p=(pkIn p.code 0 5 && (p.code==0 || !p.pr))by unfold pkMay;rw[if_neg (by omega),if_pos hk]);have CI:=zh (fun W=>pkWithin_any p.code 0 5 W);clear hk
 generalize pkMay p=X at HX ⊢
 obtain⟨k,dup,ret,q,t,b,id,c,cl,keep,hw,wt,wb,wq,wr,hu,hp,u,pw,pr,code,wants,codes,fs⟩:=p;simp only at HX CI
 generalize pkIn code 0 5=xi at HX CI
 obtain⟨z,hz⟩:∃x,(code==0)=x:=⟨_,rfl⟩;rw[hz]at HX;obtain⟨W0,hW0⟩:∃W,(w).alloc (.cells (zP k dup ret q t b id c cl keep hw wt wb wq wr hu hp u pw pr code sw sc sf) 29)=W:=⟨_,rfl⟩;have k0:Keeps (w) W0 []:=by rw[←hW0];exact Keeps.alloc _ _
 have r0:Row W0 (w).heap.size 29 (zP k dup ret q t b id c cl keep hw wt wb wq wr hu hp u pw pr code sw sc sf):=by rw[←hW0];exact Row.new _ _ _
 have HP:=zh r0;have HK:=zh k0;have HK0:=zh (Keeps.refl W0 []);clear k0 r0
 go_enter Tryz.func51,Tryz.ntmps51
 go_upto_region 1 with fail
 clear hW0
 cases xi with
 | true=>
  cases z with
  | true=>
   refine wp_region_line KeepsAll _ 13 rfl (by kernel_rfl) (by kernel_rfl) (fun _=>Keeps.refl _ _) (fun _ _ _ h k=>h.trans k (by simp)) ?_;simp only[zts,ztz,zds,zdz];refine lq (.pointer (some ⟨w.heap.size,20,none⟩)) ?_;refine ll 3 (.tmp 3) (⟨w.heap.size,20,none⟩) (.int .i64 code) (fun W hW=>((HP.out.keeps (HK0.out.then_ hW)).cell 20).trans (by kernel_rfl)) ?_;refine loose_qc 52 (#[.int .i64 code,.int .i64 0,.int .i64 5]) (.bool true) (fun _=>by kernel_rfl) (fun _ _=>by kernel_rfl) (fun W hW=>CI.out W) ?_;refine lq (.bool true) ?_;refine lq (.pointer (some ⟨w.heap.size,20,none⟩)) ?_;refine ll 3 (.tmp 7) (⟨w.heap.size,20,none⟩) (.int .i64 code) (fun W hW=>((HP.out.keeps (HK0.out.then_ hW)).cell 20).trans (by kernel_rfl)) ?_;refine loose_q (.bool true) (fun _=>by kernel_rfl) (fun W _=>(show _=Result.ok (Next.value (.bool (code==0))) W by kernel_rfl).trans (by rw[hz])) ?_;refine lq (.bool true) ?_
   iterate 3
    refine lo ?_
   iterate 2
    refine lq (.bool true) ?_
   refine loose_nil (fun W vals hW hkn=> ?_);simp only[addEnt,knowsAll]at hkn
   try simp only[and_true]at hkn
   simp only[addEnt,fill,Act.put,zsa,zsc,zsz]
   go_wp2_with fail
   go_ret;exact⟨by rw[HX.out];rfl,HK.out.then_ hW⟩
  | false=>
   refine wp_region_line KeepsAll _ 13 rfl (by kernel_rfl) (by kernel_rfl) (fun _=>Keeps.refl _ _) (fun _ _ _ h k=>h.trans k (by simp)) ?_;simp only[zts,ztz,zds,zdz];refine lq (.pointer (some ⟨w.heap.size,20,none⟩)) ?_;refine ll 3 (.tmp 3) (⟨w.heap.size,20,none⟩) (.int .i64 code) (fun W hW=>((HP.out.keeps (HK0.out.then_ hW)).cell 20).trans (by kernel_rfl)) ?_;refine loose_qc 52 (#[.int .i64 code,.int .i64 0,.int .i64 5]) (.bool true) (fun _=>by kernel_rfl) (fun _ _=>by kernel_rfl) (fun W hW=>CI.out W) ?_;refine lq (.bool true) ?_;refine lq (.pointer (some ⟨w.heap.size,20,none⟩)) ?_;refine ll 3 (.tmp 7) (⟨w.heap.size,20,none⟩) (.int .i64 code) (fun W hW=>((HP.out.keeps (HK0.out.then_ hW)).cell 20).trans (by kernel_rfl)) ?_;refine loose_q (.bool false) (fun _=>by kernel_rfl) (fun W _=>(show _=Result.ok (Next.value (.bool (code==0))) W by kernel_rfl).trans (by rw[hz])) ?_;refine lq (.bool false) ?_;refine lq (.pointer (some ⟨w.heap.size,19,none⟩)) ?_;refine ll 4 (.tmp 11) (⟨w.heap.size,19,none⟩) (.bool pr) (fun W hW=>((HP.out.keeps (HK0.out.then_ hW)).cell 19).trans (by kernel_rfl)) ?_
   iterate 3
    refine lq (.bool (!pr)) ?_
   refine loose_nil (fun W vals hW hkn=> ?_);simp only[addEnt,knowsAll]at hkn
   try simp only[and_true]at hkn
   simp only[addEnt,fill,Act.put,zsa,zsc,zsz]
   go_wp2_with fail
   go_ret;exact⟨by rw[HX.out];rfl,HK.out.then_ hW⟩
 | false=>
  refine wp_region_line KeepsAll _ 13 rfl (by kernel_rfl) (by kernel_rfl) (fun _=>Keeps.refl _ _) (fun _ _ _ h k=>h.trans k (by simp)) ?_;simp only[zts,ztz,zds,zdz];refine lq (.pointer (some ⟨w.heap.size,20,none⟩)) ?_;refine ll 3 (.tmp 3) (⟨w.heap.size,20,none⟩) (.int .i64 code) (fun W hW=>((HP.out.keeps (HK0.out.then_ hW)).cell 20).trans (by kernel_rfl)) ?_;refine loose_qc 52 (#[.int .i64 code,.int .i64 0,.int .i64 5]) (.bool false) (fun _=>by kernel_rfl) (fun _ _=>by kernel_rfl) (fun W hW=>CI.out W) ?_;refine lq (.bool false) ?_
  iterate 8
   refine lo ?_
  refine lq (.bool false) ?_;refine loose_nil (fun W vals hW hkn=> ?_);simp only[addEnt,knowsAll]at hkn
  try simp only[and_true]at hkn
  simp only[addEnt,fill,Act.put,zsa,zsc,zsz]
  go_wp2_with fail
  go_ret;exact⟨by rw[HX.out];rfl,HK.out.then_ hW⟩
end Go.Proofs.YtahbikfbjenfpaaGreatDoor
