/- Package packet: lists of one to eight things that are so; may the other kinds be? Package packet: may the kinds be that have a list, or little? -/
import Derived.Test.YtahbikfbjenfpaaGreatDoorPa16
import Derived.Test.YtahbikfbjenfpaaGreatDoorPa28
set_option maxHeartbeats 1000000
set_option maxRecDepth 100000
namespace Go.Proofs.YtahbikfbjenfpaaGreatDoor
open Tryz Go.RowKit

theorem JX (w:au)(bx:Nat)(x:(aG×Int))(q:Bool)(hb:Row w bx 104 #[.func (.func 63) #[] #[]])(HC:∀W,ae w W []->Calls prog 63 #[.agg #[.string ⟨x.1.toArray⟩,.int .i64 x.2]] W (aJ W q)):
  Calls prog 115 #[.agg #[.string ⟨x.1.toArray⟩,.int .i64 x.2],.pointer (some ⟨bx,0,none⟩)] w (aJ w (!q)):=by
 have c0:=hb.cell 0;have hlt:=hb.lt;simp only[cg,bU]at c0;have HC:=zh HC
 go_enter func115,ntmps115
 go_wp2_with fail
 have HA:=zh (show ae w _ []from by first | exact ae.alloc w (.cells #[.string ⟨x.1.toArray⟩,.int .i64 x.2] 50) | exact ae.refl w _);refine(HC.o _ (by first | exact ae.refl _ _ | exact ae.alloc _ _)).mono ?_;rintro e w1 ⟨rfl,hk⟩;have HK:=zh hk;clear hk
 go_wp2_with fail
 go_ret;exact⟨rfl,by first | exact HK.o | exact(ae.alloc _ _).ah HK.o⟩
theorem J0 (w:au)(bx:Nat)(A:Option Addr)(c:Nat)(l:List (aG×Int))(p:(aG×Int)->Bool)(hL:cY w 2 gK A l)(hl:l.length<=1000000)
  (HC:∀W,ae w W []->∀x∈l,Calls prog 115 #[.agg #[.string ⟨x.1.toArray⟩,.int .i64 x.2],.pointer (some ⟨bx,0,none⟩)] W (aJ W (p x))):
  Calls prog 153 #[.slice A l.length c,.func (.func 115) #[] #[.pointer (some ⟨bx,0,none⟩)]] w λe w' =>e= .returned (.int .i64 (jx p l))/\ae w w' []:=by
 have HC:=zh HC;have HL:=zh hL;clear hL
 go_enter func153,ntmps153
 go_wp2_with fail
 go_loopw [8] (λi wr=>∃j:Nat,j<=l.length/\i= .int .i64 j/\Hid ((l.take j).all (λx=> !p x)=true/\ae w wr [])) (λi _=>l.length - (intOf i).toNat)
 case atStart=>exact⟨0,by omega,rfl,zh ⟨rfl,ae.refl _ _⟩⟩
 case round=>
  obtain⟨j,hj,rfl,HJ⟩:=hrel
  by_cases hjl:j < l.length
  ·obtain⟨b,o,cs,rfl,hr,hc⟩:=HL.o (by omega)
   have hr1:=hr.keeps HJ.o.2;have hc1:=hc j hjl;have HF:=zh (λh=>kR (p:=p) (j:=j) hjl HJ.o.1 h);have sU:=zh (HC.o wr HJ.o.2 l[j] (fS _));have HP:=zh (λh=>jK (p:=p) (j:=j) hjl HJ.o.1 h);obtain⟨q,hq⟩:∃q,p l[j]=q:=⟨_,rfl⟩;rw[hq]at sU HP HF
   generalize l[j]=x at hc1 sU hq
   clear hq;have m0:=(hr1.cell (o+j*2+0)).trans (hc1 0 (by omega));have m1:=(hr1.cell (o+j*2+1)).trans (hc1 1 (by omega));simp only[gK,bU,fe,fj]at m0 m1;clear hc hc1 hr hr1
   go_wp2_with fail
   refine sU.o.mono ?_;rintro e w3 ⟨rfl,hk3⟩;have HK:=zh (HJ.o.2.ah hk3);clear hk3 sU
   cases q with
   | true=>
    go_wp2_with fail
    go_ret;exact⟨by rw[HP.o (by first | rfl | trivial)];rfl,HK.o⟩
   | false=>
    go_wp2_with fail
    exact⟨⟨j+1,by omega,by go_num,zh ⟨HF.o (by first | rfl | trivial),HK.o⟩⟩,by simp[intOf];omega⟩
  ·obtain rfl:j=l.length:=by omega
   have HN:=zh (kT (p:=p) (l:=l) (by have:=HJ.o.1;rwa [eQ]at this))
   go_wp2_with fail
   go_ret;exact⟨by rw[HN.o];rfl,HJ.o.2⟩
theorem J3 (w:au)(bx:Nat)(A:Option Addr)(c:Nat)(l:List (aG×Int))(p:(aG×Int)->Bool)(hL:cY w 2 gK A l)(hl:l.length<=1000000)
  (HC:∀W,ae w W []->∀x∈l,Calls prog 115 #[.agg #[.string ⟨x.1.toArray⟩,.int .i64 x.2],.pointer (some ⟨bx,0,none⟩)] W (aJ W (p x))):
  Calls prog 114 #[.slice A l.length c,.func (.func 115) #[] #[.pointer (some ⟨bx,0,none⟩)]] w (aJ w (l.any p)):=by
 have H:=zh (J0 w bx A c l p hL hl HC);have HA:=zh (sJ p l)
 generalize jx p l=i at H HA
 clear hL HC;obtain⟨q,hq⟩:∃q,l.any p=q:=⟨_,rfl⟩;rw[hq]at HA ⊢
 have hi:=HA.o
 go_enter func114,ntmps114
 go_wp2_with fail
 refine H.o.mono ?_;rintro e w1 ⟨rfl,hk⟩;have HK:=zh hk;clear hk
 go_wp2_with fail
 go_ret;exact⟨rfl,HK.o⟩
theorem Ma (w:au)(A:Option Addr)(c:Nat)(l:List (aG×Int))(p:(aG×Int)->Bool)(hL:cY w 2 gK A l)(hl:l.length<=1000000)
  (HC:∀W,ae w W []->∀x∈l,Calls prog 63 #[.agg #[.string ⟨x.1.toArray⟩,.int .i64 x.2]] W (aJ W (p x))):
  Calls prog 62 #[.slice A l.length c,.func (.func 63) #[] #[]] w (aJ w (cO l p)):=by
 obtain⟨W0,aV⟩:∃W0,w.alloc (.cells #[.func (.func 63) #[] #[]] 104)=W0:=⟨_,rfl⟩;have k0:ae w W0 []:=by rw[<-aV];exact ae.alloc _ _
 have r0:Row W0 w.heap.size 104 #[.func (.func 63) #[] #[]]:=by rw[<-aV];exact Row.new _ _ _
 have HI:=zh (J3 W0 w.heap.size A c l (λx=> !p x) (hL.keeps k0) hl (λW hW x hx=>JX W w.heap.size x (p x) (r0.keeps hW) (λW2 kq=>HC W2 ((k0.ah hW).ah kq) x hx)));have HK:=zh k0;clear k0 r0 hL;obtain⟨q,hq⟩:∃q,(l.any λx=> !p x)=q:=⟨_,rfl⟩;rw[hq]at HI;have e:l.all p= !q:=by
  rw[<-hq,List.not_any_eq_all_not];simp
 clear hq HC
 by_cases h1:1<=l.length
 ·have d1:decide ((l.length:Int)>=1)=true:=bz (by omega)
  by_cases h2:l.length<=8
  ·have d2:decide ((l.length:Int)<=8)=true:=bz (by omega)
   have HX:=zh (show cO l p= !q by unfold cO;rw[bz h1,bz h2,e];rfl)
   go_enter func62,ntmps62
   go_wp2_with fail
   refine HI.o.mono ?_;rintro e w1 ⟨rfl,hk⟩;have lN:=zh hk;clear hk
   go_wp2_with fail
   go_ret;exact⟨by rw[HX.o];rfl,HK.o.ah lN.o⟩
  ·have d2:decide ((l.length:Int)<=8)=false:=aZ (by omega)
   have HX:=zh (show cO l p=false by unfold cO;rw[aZ h2];simp)
   go_enter func62,ntmps62
   go_wp2_with fail
   go_ret;exact⟨by rw[HX.o];rfl,HK.o⟩
 ·have d1:decide ((l.length:Int)>=1)=false:=aZ (by omega)
  have HX:=zh (show cO l p=false by unfold cO;rw[aZ h1];rfl)
  go_enter func62,ntmps62
  go_wp2_with fail
  go_ret;exact⟨by rw[HX.o];rfl,HK.o⟩
theorem JZ (w:au)(bx:Nat)(x:Int)(q:Bool)(hb:Row w bx 103 #[.func (.func 75) #[] #[]])(HC:∀W,ae w W []->Calls prog 75 #[.int .i64 x] W (aJ W q)):
  Calls prog 122 #[.int .i64 x,.pointer (some ⟨bx,0,none⟩)] w (aJ w (!q)):=by
 have c0:=hb.cell 0;have hlt:=hb.lt;simp only[cg,bU]at c0;have HC:=zh HC
 go_enter func122,ntmps122
 go_wp2_with fail
 have HA:=zh (show ae w _ []from by first | exact ae.alloc w (.cells #[.string ⟨x.1.toArray⟩,.int .i64 x.2] 50) | exact ae.refl w _);refine(HC.o _ (by first | exact ae.refl _ _ | exact ae.alloc _ _)).mono ?_;rintro e w1 ⟨rfl,hk⟩;have HK:=zh hk;clear hk
 go_wp2_with fail
 go_ret;exact⟨rfl,by first | exact HK.o | exact(ae.alloc _ _).ah HK.o⟩
theorem J2 (w:au)(bx:Nat)(A:Option Addr)(c:Nat)(l:List Int)(p:Int->Bool)(hL:cY w 1 jJ A l)(hl:l.length<=1000000)
  (HC:∀W,ae w W []->∀x∈l,Calls prog 122 #[.int .i64 x,.pointer (some ⟨bx,0,none⟩)] W (aJ W (p x))):
  Calls prog 158 #[.slice A l.length c,.func (.func 122) #[] #[.pointer (some ⟨bx,0,none⟩)]] w λe w' =>e= .returned (.int .i64 (jx p l))/\ae w w' []:=by
 have HC:=zh HC;have HL:=zh hL;clear hL
 go_enter func158,ntmps158
 go_wp2_with fail
 go_loopw [8] (λi wr=>∃j:Nat,j<=l.length/\i= .int .i64 j/\Hid ((l.take j).all (λx=> !p x)=true/\ae w wr [])) (λi _=>l.length - (intOf i).toNat)
 case atStart=>exact⟨0,by omega,rfl,zh ⟨rfl,ae.refl _ _⟩⟩
 case round=>
  obtain⟨j,hj,rfl,HJ⟩:=hrel
  by_cases hjl:j < l.length
  ·obtain⟨b,o,cs,rfl,hr,hc⟩:=HL.o (by omega)
   have hr1:=hr.keeps HJ.o.2;have hc1:=hc j hjl;have HF:=zh (λh=>kR (p:=p) (j:=j) hjl HJ.o.1 h);have sU:=zh (HC.o wr HJ.o.2 l[j] (fS _));have HP:=zh (λh=>jK (p:=p) (j:=j) hjl HJ.o.1 h);obtain⟨q,hq⟩:∃q,p l[j]=q:=⟨_,rfl⟩;rw[hq]at sU HP HF
   generalize l[j]=x at hc1 sU hq
   clear hq;have m0:=(hr1.cell (o+j*1+0)).trans (hc1 0 (by omega));simp only[jJ,bU,iO,fj]at m0;clear hc hc1 hr hr1
   go_wp2_with fail
   refine sU.o.mono ?_;rintro e w3 ⟨rfl,hk3⟩;have HK:=zh (HJ.o.2.ah hk3);clear hk3 sU
   cases q with
   | true=>
    go_wp2_with fail
    go_ret;exact⟨by rw[HP.o (by first | rfl | trivial)];rfl,HK.o⟩
   | false=>
    go_wp2_with fail
    exact⟨⟨j+1,by omega,by go_num,zh ⟨HF.o (by first | rfl | trivial),HK.o⟩⟩,by simp[intOf];omega⟩
  ·obtain rfl:j=l.length:=by omega
   have HN:=zh (kT (p:=p) (l:=l) (by have:=HJ.o.1;rwa [eQ]at this))
   go_wp2_with fail
   go_ret;exact⟨by rw[HN.o];rfl,HJ.o.2⟩
theorem J5 (w:au)(bx:Nat)(A:Option Addr)(c:Nat)(l:List Int)(p:Int->Bool)(hL:cY w 1 jJ A l)(hl:l.length<=1000000)
  (HC:∀W,ae w W []->∀x∈l,Calls prog 122 #[.int .i64 x,.pointer (some ⟨bx,0,none⟩)] W (aJ W (p x))):
  Calls prog 121 #[.slice A l.length c,.func (.func 122) #[] #[.pointer (some ⟨bx,0,none⟩)]] w (aJ w (l.any p)):=by
 have H:=zh (J2 w bx A c l p hL hl HC);have HA:=zh (sJ p l)
 generalize jx p l=i at H HA
 clear hL HC;obtain⟨q,hq⟩:∃q,l.any p=q:=⟨_,rfl⟩;rw[hq]at HA ⊢
 have hi:=HA.o
 go_enter func121,ntmps121
 go_wp2_with fail
 refine H.o.mono ?_;rintro e w1 ⟨rfl,hk⟩;have HK:=zh hk;clear hk
 go_wp2_with fail
 go_ret;exact⟨rfl,HK.o⟩
theorem Mc (w:au)(A:Option Addr)(c:Nat)(l:List Int)(p:Int->Bool)(hL:cY w 1 jJ A l)(hl:l.length<=1000000)
  (HC:∀W,ae w W []->∀x∈l,Calls prog 75 #[.int .i64 x] W (aJ W (p x))):
  Calls prog 74 #[.slice A l.length c,.func (.func 75) #[] #[]] w (aJ w (cO l p)):=by
 obtain⟨W0,aV⟩:∃W0,w.alloc (.cells #[.func (.func 75) #[] #[]] 103)=W0:=⟨_,rfl⟩;have k0:ae w W0 []:=by rw[<-aV];exact ae.alloc _ _
 have r0:Row W0 w.heap.size 103 #[.func (.func 75) #[] #[]]:=by rw[<-aV];exact Row.new _ _ _
 have HI:=zh (J5 W0 w.heap.size A c l (λx=> !p x) (hL.keeps k0) hl (λW hW x hx=>JZ W w.heap.size x (p x) (r0.keeps hW) (λW2 kq=>HC W2 ((k0.ah hW).ah kq) x hx)));have HK:=zh k0;clear k0 r0 hL;obtain⟨q,hq⟩:∃q,(l.any λx=> !p x)=q:=⟨_,rfl⟩;rw[hq]at HI;have e:l.all p= !q:=by
  rw[<-hq,List.not_any_eq_all_not];simp
 clear hq HC
 by_cases h1:1<=l.length
 ·have d1:decide ((l.length:Int)>=1)=true:=bz (by omega)
  by_cases h2:l.length<=8
  ·have d2:decide ((l.length:Int)<=8)=true:=bz (by omega)
   have HX:=zh (show cO l p= !q by unfold cO;rw[bz h1,bz h2,e];rfl)
   go_enter func74,ntmps74
   go_wp2_with fail
   refine HI.o.mono ?_;rintro e w1 ⟨rfl,hk⟩;have lN:=zh hk;clear hk
   go_wp2_with fail
   go_ret;exact⟨by rw[HX.o];rfl,HK.o.ah lN.o⟩
  ·have d2:decide ((l.length:Int)<=8)=false:=aZ (by omega)
   have HX:=zh (show cO l p=false by unfold cO;rw[aZ h2];simp)
   go_enter func74,ntmps74
   go_wp2_with fail
   go_ret;exact⟨by rw[HX.o];rfl,HK.o⟩
 ·have d1:decide ((l.length:Int)>=1)=false:=aZ (by omega)
  have HX:=zh (show cO l p=false by unfold cO;rw[aZ h1];rfl)
  go_enter func74,ntmps74
  go_wp2_with fail
  go_ret;exact⟨by rw[HX.o];rfl,HK.o⟩
theorem JY (w:au)(bx:Nat)(x:aG)(q:Bool)(hb:Row w bx 64 #[.func (.func 64) #[] #[]])(HC:∀W,ae w W []->Calls prog 64 #[.string ⟨x.toArray⟩] W (aJ W q)):
  Calls prog 124 #[.string ⟨x.toArray⟩,.pointer (some ⟨bx,0,none⟩)] w (aJ w (!q)):=by
 have c0:=hb.cell 0;have hlt:=hb.lt;simp only[cg,bU]at c0;have HC:=zh HC
 go_enter func124,ntmps124
 go_wp2_with fail
 have HA:=zh (show ae w _ []from by first | exact ae.alloc w (.cells #[.string ⟨x.1.toArray⟩,.int .i64 x.2] 50) | exact ae.refl w _);refine(HC.o _ (by first | exact ae.refl _ _ | exact ae.alloc _ _)).mono ?_;rintro e w1 ⟨rfl,hk⟩;have HK:=zh hk;clear hk
 go_wp2_with fail
 go_ret;exact⟨rfl,by first | exact HK.o | exact(ae.alloc _ _).ah HK.o⟩
theorem J1 (w:au)(bx:Nat)(A:Option Addr)(c:Nat)(l:List aG)(p:aG->Bool)(hL:cY w 1 fC A l)(hl:l.length<=1000000)
  (HC:∀W,ae w W []->∀x∈l,Calls prog 124 #[.string ⟨x.toArray⟩,.pointer (some ⟨bx,0,none⟩)] W (aJ W (p x))):
  Calls prog 159 #[.slice A l.length c,.func (.func 124) #[] #[.pointer (some ⟨bx,0,none⟩)]] w λe w' =>e= .returned (.int .i64 (jx p l))/\ae w w' []:=by
 have HC:=zh HC;have HL:=zh hL;clear hL
 go_enter func159,ntmps159
 go_wp2_with fail
 go_loopw [8] (λi wr=>∃j:Nat,j<=l.length/\i= .int .i64 j/\Hid ((l.take j).all (λx=> !p x)=true/\ae w wr [])) (λi _=>l.length - (intOf i).toNat)
 case atStart=>exact⟨0,by omega,rfl,zh ⟨rfl,ae.refl _ _⟩⟩
 case round=>
  obtain⟨j,hj,rfl,HJ⟩:=hrel
  by_cases hjl:j < l.length
  ·obtain⟨b,o,cs,rfl,hr,hc⟩:=HL.o (by omega)
   have hr1:=hr.keeps HJ.o.2;have hc1:=hc j hjl;have HF:=zh (λh=>kR (p:=p) (j:=j) hjl HJ.o.1 h);have sU:=zh (HC.o wr HJ.o.2 l[j] (fS _));have HP:=zh (λh=>jK (p:=p) (j:=j) hjl HJ.o.1 h);obtain⟨q,hq⟩:∃q,p l[j]=q:=⟨_,rfl⟩;rw[hq]at sU HP HF
   generalize l[j]=x at hc1 sU hq
   clear hq;have m0:=(hr1.cell (o+j*1+0)).trans (hc1 0 (by omega));simp only[fC,bU,iO,fj]at m0;clear hc hc1 hr hr1
   go_wp2_with fail
   refine sU.o.mono ?_;rintro e w3 ⟨rfl,hk3⟩;have HK:=zh (HJ.o.2.ah hk3);clear hk3 sU
   cases q with
   | true=>
    go_wp2_with fail
    go_ret;exact⟨by rw[HP.o (by first | rfl | trivial)];rfl,HK.o⟩
   | false=>
    go_wp2_with fail
    exact⟨⟨j+1,by omega,by go_num,zh ⟨HF.o (by first | rfl | trivial),HK.o⟩⟩,by simp[intOf];omega⟩
  ·obtain rfl:j=l.length:=by omega
   have HN:=zh (kT (p:=p) (l:=l) (by have:=HJ.o.1;rwa [eQ]at this))
   go_wp2_with fail
   go_ret;exact⟨by rw[HN.o];rfl,HJ.o.2⟩
theorem J4 (w:au)(bx:Nat)(A:Option Addr)(c:Nat)(l:List aG)(p:aG->Bool)(hL:cY w 1 fC A l)(hl:l.length<=1000000)
  (HC:∀W,ae w W []->∀x∈l,Calls prog 124 #[.string ⟨x.toArray⟩,.pointer (some ⟨bx,0,none⟩)] W (aJ W (p x))):
  Calls prog 123 #[.slice A l.length c,.func (.func 124) #[] #[.pointer (some ⟨bx,0,none⟩)]] w (aJ w (l.any p)):=by
 have H:=zh (J1 w bx A c l p hL hl HC);have HA:=zh (sJ p l)
 generalize jx p l=i at H HA
 clear hL HC;obtain⟨q,hq⟩:∃q,l.any p=q:=⟨_,rfl⟩;rw[hq]at HA ⊢
 have hi:=HA.o
 go_enter func123,ntmps123
 go_wp2_with fail
 refine H.o.mono ?_;rintro e w1 ⟨rfl,hk⟩;have HK:=zh hk;clear hk
 go_wp2_with fail
 go_ret;exact⟨rfl,HK.o⟩
theorem Mb (w:au)(A:Option Addr)(c:Nat)(l:List aG)(p:aG->Bool)(hL:cY w 1 fC A l)(hl:l.length<=1000000)
  (HC:∀W,ae w W []->∀x∈l,Calls prog 64 #[.string ⟨x.toArray⟩] W (aJ W (p x))):
  Calls prog 82 #[.slice A l.length c,.func (.func 64) #[] #[]] w (aJ w (cO l p)):=by
 obtain⟨W0,aV⟩:∃W0,w.alloc (.cells #[.func (.func 64) #[] #[]] 64)=W0:=⟨_,rfl⟩;have k0:ae w W0 []:=by rw[<-aV];exact ae.alloc _ _
 have r0:Row W0 w.heap.size 64 #[.func (.func 64) #[] #[]]:=by rw[<-aV];exact Row.new _ _ _
 have HI:=zh (J4 W0 w.heap.size A c l (λx=> !p x) (hL.keeps k0) hl (λW hW x hx=>JY W w.heap.size x (p x) (r0.keeps hW) (λW2 kq=>HC W2 ((k0.ah hW).ah kq) x hx)));have HK:=zh k0;clear k0 r0 hL;obtain⟨q,hq⟩:∃q,(l.any λx=> !p x)=q:=⟨_,rfl⟩;rw[hq]at HI;have e:l.all p= !q:=by
  rw[<-hq,List.not_any_eq_all_not];simp
 clear hq HC
 by_cases h1:1<=l.length
 ·have d1:decide ((l.length:Int)>=1)=true:=bz (by omega)
  by_cases h2:l.length<=8
  ·have d2:decide ((l.length:Int)<=8)=true:=bz (by omega)
   have HX:=zh (show cO l p= !q by unfold cO;rw[bz h1,bz h2,e];rfl)
   go_enter func82,ntmps82
   go_wp2_with fail
   refine HI.o.mono ?_;rintro e w1 ⟨rfl,hk⟩;have lN:=zh hk;clear hk
   go_wp2_with fail
   go_ret;exact⟨by rw[HX.o];rfl,HK.o.ah lN.o⟩
  ·have d2:decide ((l.length:Int)<=8)=false:=aZ (by omega)
   have HX:=zh (show cO l p=false by unfold cO;rw[aZ h2];simp)
   go_enter func82,ntmps82
   go_wp2_with fail
   go_ret;exact⟨by rw[HX.o];rfl,HK.o⟩
 ·have d1:decide ((l.length:Int)>=1)=false:=aZ (by omega)
  have HX:=zh (show cO l p=false by unfold cO;rw[aZ h1];rfl)
  go_enter func82,ntmps82
  go_wp2_with fail
  go_ret;exact⟨by rw[HX.o];rfl,HK.o⟩

theorem Cx (x:aG×Int)(w:au)(hx:x.1.length<=50000)(hm:lG w):Calls prog 63 #[.agg #[.string ⟨x.1.toArray⟩,.int .i64 x.2]] w (aJ w (cD x.1 && dz x.2 0 2)):=by
 obtain⟨f,n⟩:=x;obtain⟨W0,aV⟩:∃W0,w.alloc (.cells #[.string ⟨f.toArray⟩,.int .i64 n] 50)=W0:=⟨_,rfl⟩;have k0:ae w W0 []:=by rw[<-aV];exact ae.alloc _ _
 have r0:Row W0 w.heap.size 50 #[.string ⟨f.toArray⟩,.int .i64 n]:=by rw[<-aV];exact Row.new _ _ _
 have HF:=zh (xM W0 f hx (hm.keeps k0));have x0:=r0.cell 0;have x1:=r0.cell 1;simp only[cg,bU,fe]at x0 x1;have HR:=zh (And.intro k0 r0);clear k0 r0;simp only
 generalize cD f=a at HF ⊢
 go_enter func63,ntmps63
 go_wp2_with fail
 refine HF.o.mono ?_;rintro e w1 ⟨rfl,hk⟩;have r1:=HR.o.2.keeps hk;have HK:=zh (HR.o.1.ah hk);clear hk x0 x1;have x0:=r1.cell 0;have x1:=r1.cell 1;simp only[cg,bU,fe]at x0 x1;clear r1
 cases a with
 | true=>
  go_wp2_with fail
  refine(pY n _).mono ?_;rintro e w2 ⟨rfl,hk⟩;have lN:=zh (HK.o.ah hk);clear hk
  go_wp2_with fail
  go_ret;exact⟨rfl,lN.o⟩
 | false=>
  go_wp2_with fail
  go_ret;exact⟨rfl,HK.o⟩
theorem C_ (n:Int)(w:au):Calls prog 75 #[.int .i64 n] w (aJ w (dz n 0 2 || n==128)):=by
 have HQ:=zh (pY n w)
 generalize dz n 0 2=a at HQ ⊢
 obtain⟨z,hz⟩:∃z,(n==128)=z:=⟨_,rfl⟩;rw[hz]
 go_enter func75,ntmps75
 go_wp2_with fail
 refine HQ.o.mono ?_;rintro e w1 ⟨rfl,hk⟩;have HK:=zh hk;clear hk
 cases a with
 | true=>
  go_wp2_with fail
  go_ret;exact⟨rfl,HK.o⟩
 | false=>
  go_wp2_with fail
  go_ret;exact⟨rfl,HK.o⟩
theorem Ff (p:Pk)(sw sc sf:Value)(w:au):Calls prog 48 #[eO p sw sc sf] w (aJ w true):=by
 obtain⟨k,dup,ret,q,t,b,id,c,cl,keep,hw,wt,wb,wq,wr,hu,hp,u,pw,pr,code,wants,aF,fs⟩:=p
 go_enter func48,ntmps48
 go_wp2_with fail
 go_ret;exact⟨rfl,ae.alloc _ _⟩
theorem GK (p:Pk)(sw sc sf:Value)(w:au):Calls prog 140 #[eO p sw sc sf] w (aJ w true):=by
 obtain⟨k,dup,ret,q,t,b,id,c,cl,keep,hw,wt,wb,wq,wr,hu,hp,u,pw,pr,code,wants,aF,fs⟩:=p
 go_enter func140,ntmps140
 go_wp2_with fail
 go_ret;exact⟨rfl,ae.alloc _ _⟩
theorem JC (p:Pk)(sw sc sf:Value)(w:au)(q:Bool)(HC:∀W,ae w W []->Calls prog 62 #[sw,.func (.func 63) #[] #[]] W (aJ W q)):Calls prog 61 #[eO p sw sc sf] w (aJ w q):=by
 obtain⟨k,dup,ret,q,t,b,id,c,cl,keep,hw,wt,wb,wq,wr,hu,hp,u,pw,pr,code,wants,aF,fs⟩:=p;obtain⟨W0,aV⟩:∃W,(w).alloc (.cells (zP k dup ret q t b id c cl keep hw wt wb wq wr hu hp u pw pr code sw sc sf) 29)=W:=⟨_,rfl⟩;have k0:ae (w) W0 []:=by rw[<-aV];exact ae.alloc _ _
 have r0:Row W0 (w).heap.size 29 (zP k dup ret q t b id c cl keep hw wt wb wq wr hu hp u pw pr code sw sc sf):=by rw[<-aV];exact Row.new _ _ _
 have x0:=r0.cell 0;have x1:=r0.cell 1;have x2:=r0.cell 2;have x3:=r0.cell 3;have x4:=r0.cell 4;have x5:=r0.cell 5;have x6:=r0.cell 6;have x7:=r0.cell 7;have x8:=r0.cell 8;have x9:=r0.cell 9;have iB:=r0.cell 10;have mz:=r0.cell 11;have lV:=r0.cell 12;have lU:=r0.cell 13;have mw:=r0.cell 14;have jf:=r0.cell 15;have hU:=r0.cell 16;have lT:=r0.cell 17;have mL:=r0.cell 18;have mK:=r0.cell 19;have x20:=r0.cell 20;have ju:=r0.cell 21;have mr:=r0.cell 22;have mJ:=r0.cell 23;simp only[cg,bU,fe]at x0 x1 x2 x3 x4 x5 x6 x7 x8 x9 iB mz lV lU mw jf hU lT mL mK x20 ju mr mJ;have HF:=zh (HC W0 k0);have HK:=zh k0;clear k0 r0 HC
 go_enter func61,ntmps61
 go_wp2_with fail
 refine HF.o.mono ?_;rintro e w1 ⟨rfl,hk⟩;have kU:=zh (HK.o.ah hk);clear hk;clear x0 x1 x2 x3 x4 x5 x6 x7 x8 x9 iB mz lV lU mw jf hU lT mL mK x20 ju mr mJ
 go_wp2_with fail
 go_ret;exact⟨rfl,kU.o⟩
theorem JB (p:Pk)(sw sc sf:Value)(w:au)(q:Bool)(HC:∀W,ae w W []->Calls prog 74 #[sc,.func (.func 75) #[] #[]] W (aJ W q)):Calls prog 73 #[eO p sw sc sf] w (aJ w q):=by
 obtain⟨k,dup,ret,q,t,b,id,c,cl,keep,hw,wt,wb,wq,wr,hu,hp,u,pw,pr,code,wants,aF,fs⟩:=p;obtain⟨W0,aV⟩:∃W,(w).alloc (.cells (zP k dup ret q t b id c cl keep hw wt wb wq wr hu hp u pw pr code sw sc sf) 29)=W:=⟨_,rfl⟩;have k0:ae (w) W0 []:=by rw[<-aV];exact ae.alloc _ _
 have r0:Row W0 (w).heap.size 29 (zP k dup ret q t b id c cl keep hw wt wb wq wr hu hp u pw pr code sw sc sf):=by rw[<-aV];exact Row.new _ _ _
 have x0:=r0.cell 0;have x1:=r0.cell 1;have x2:=r0.cell 2;have x3:=r0.cell 3;have x4:=r0.cell 4;have x5:=r0.cell 5;have x6:=r0.cell 6;have x7:=r0.cell 7;have x8:=r0.cell 8;have x9:=r0.cell 9;have iB:=r0.cell 10;have mz:=r0.cell 11;have lV:=r0.cell 12;have lU:=r0.cell 13;have mw:=r0.cell 14;have jf:=r0.cell 15;have hU:=r0.cell 16;have lT:=r0.cell 17;have mL:=r0.cell 18;have mK:=r0.cell 19;have x20:=r0.cell 20;have ju:=r0.cell 21;have mr:=r0.cell 22;have mJ:=r0.cell 23;simp only[cg,bU,fe]at x0 x1 x2 x3 x4 x5 x6 x7 x8 x9 iB mz lV lU mw jf hU lT mL mK x20 ju mr mJ;have HF:=zh (HC W0 k0);have HK:=zh k0;clear k0 r0 HC
 go_enter func73,ntmps73
 go_wp2_with fail
 refine HF.o.mono ?_;rintro e w1 ⟨rfl,hk⟩;have kU:=zh (HK.o.ah hk);clear hk;clear x0 x1 x2 x3 x4 x5 x6 x7 x8 x9 iB mz lV lU mw jf hU lT mL mK x20 ju mr mJ
 go_wp2_with fail
 go_ret;exact⟨rfl,kU.o⟩
theorem GJ (p:Pk)(sw sc sf:Value)(w:au)(q:Bool)(HC:∀W,ae w W []->Calls prog 82 #[sf,.func (.func 64) #[] #[]] W (aJ W q)):Calls prog 81 #[eO p sw sc sf] w (aJ w q):=by
 obtain⟨k,dup,ret,q,t,b,id,c,cl,keep,hw,wt,wb,wq,wr,hu,hp,u,pw,pr,code,wants,aF,fs⟩:=p;obtain⟨W0,aV⟩:∃W,(w).alloc (.cells (zP k dup ret q t b id c cl keep hw wt wb wq wr hu hp u pw pr code sw sc sf) 29)=W:=⟨_,rfl⟩;have k0:ae (w) W0 []:=by rw[<-aV];exact ae.alloc _ _
 have r0:Row W0 (w).heap.size 29 (zP k dup ret q t b id c cl keep hw wt wb wq wr hu hp u pw pr code sw sc sf):=by rw[<-aV];exact Row.new _ _ _
 have x0:=r0.cell 0;have x1:=r0.cell 1;have x2:=r0.cell 2;have x3:=r0.cell 3;have x4:=r0.cell 4;have x5:=r0.cell 5;have x6:=r0.cell 6;have x7:=r0.cell 7;have x8:=r0.cell 8;have x9:=r0.cell 9;have iB:=r0.cell 10;have mz:=r0.cell 11;have lV:=r0.cell 12;have lU:=r0.cell 13;have mw:=r0.cell 14;have jf:=r0.cell 15;have hU:=r0.cell 16;have lT:=r0.cell 17;have mL:=r0.cell 18;have mK:=r0.cell 19;have x20:=r0.cell 20;have ju:=r0.cell 21;have mr:=r0.cell 22;have mJ:=r0.cell 23;simp only[cg,bU,fe]at x0 x1 x2 x3 x4 x5 x6 x7 x8 x9 iB mz lV lU mw jf hU lT mL mK x20 ju mr mJ;have HF:=zh (HC W0 k0);have HK:=zh k0;clear k0 r0 HC
 go_enter func81,ntmps81
 go_wp2_with fail
 refine HF.o.mono ?_;rintro e w1 ⟨rfl,hk⟩;have kU:=zh (HK.o.ah hk);clear hk;clear x0 x1 x2 x3 x4 x5 x6 x7 x8 x9 iB mz lV lU mw jf hU lT mL mK x20 ju mr mJ
 go_wp2_with fail
 go_ret;exact⟨rfl,kU.o⟩
/-- What a list's kind may be, but for its ID. -/
def iL (p:Pk):Bool:=if p.k=8 then cO p.wants λw=>cD w.1 && dz w.2 0 2 else if p.k=9 then cO p.aF λc=>dz c 0 2 || c==128 else if p.k=10 then cO p.fs cD else true
theorem Fg {p:Pk}(h:4<=p.k/\p.k<=11):cK p=(qo p && iL p):=by
 unfold cK iL;rw[aj (by omega),aj (by omega),aj (by omega)]
 split
 ·rfl
 ·split
  ·rfl
  ·split
   ·rfl
   ·rw[aj (by omega),Bool.and_true]
theorem CT (p:Pk)(sw sc sf:Value)(w:au)(hk:p.k=8)(hs:rl p)(hl:fR w p sw sc sf)(hm:lG w):Calls prog 61 #[eO p sw sc sf] w (aJ w (iL p)):=by
 have e:iL p=cO p.wants λw=>cD w.1 && dz w.2 0 2:=by unfold iL;rw[aE hk]
 rw[e];obtain⟨A,c,rfl,h1⟩:=hl.lw;exact JC p _ sc sf w _ λW hW=>Ma W A c p.wants _ (h1.keeps hW) (by have:=hs.wants.1;omega) λW2 kq x hx=>Cx x W2 (hs.wants.2 x hx) ((hm.keeps hW).keeps kq)
theorem CP (p:Pk)(sw sc sf:Value)(w:au)(hk:p.k=9)(hs:rl p)(hl:fR w p sw sc sf):Calls prog 73 #[eO p sw sc sf] w (aJ w (iL p)):=by
 have e:iL p=cO p.aF λc=>dz c 0 2 || c==128:=by unfold iL;rw[aj (by omega),aE hk]
 rw[e];obtain⟨A,c,rfl,h1⟩:=hl.lc;exact JB p sw _ sf w _ λW hW=>Mc W A c p.aF _ (h1.keeps hW) (by have:=hs.aF;omega) λW2 _ x _=>C_ x W2
theorem AU (p:Pk)(sw sc sf:Value)(w:au)(hk:p.k=10)(hs:rl p)(hl:fR w p sw sc sf)(hm:lG w):Calls prog 81 #[eO p sw sc sf] w (aJ w (iL p)):=by
 have e:iL p=cO p.fs cD:=by unfold iL;rw[aj (by omega),aj (by omega),aE hk]
 rw[e];obtain⟨A,c,rfl,h1⟩:=hl.lf;exact GJ p sw sc _ w _ λW hW=>Mb W A c p.fs _ (h1.keeps hW) (by have:=hs.fs.1;omega) λW2 kq x hx=>xM W2 x (hs.fs.2 x hx) ((hm.keeps hW).keeps kq)
theorem vM (p:Pk)(sw sc sf:Value)(w:au)(hk:p.k=4\/p.k=5\/p.k=6\/p.k=7\/p.k=11):Calls prog 140 #[eO p sw sc sf] w (aJ w (iL p)):=by
 have e:iL p=true:=by unfold iL;rw[aj (by omega),aj (by omega),aj (by omega)]
 rw[e];exact GK p sw sc sf w
/-- A kind that has an ID. -/
theorem iR (p:Pk)(sw sc sf:Value)(w:au)(i:FuncId)(bx:Nat)(hk:4<=p.k/\p.k<=11)(hr:∀(args:Array Value) (w:au),(callFunc i args).run prog w= .ok (.enter i args) w)(hb:Row w bx 30 #[.func (.func i) #[] #[]])(HC:∀W,ae w W []->Calls prog i #[eO p sw sc sf] W (aJ W (iL p))):
  Calls prog 109 #[eO p sw sc sf,.pointer (some ⟨bx,0,none⟩)] w (aJ w (cK p)):=by
 rw[Fg hk];clear hk;have HI:=zh (λW=>jn p.id 1 65535 W);have HC:=zh HC;obtain⟨a,ha⟩:∃a,qo p=a:=⟨_,rfl⟩;have ha2:dz p.id 1 65535=a:=ha;rw[ha];rw[ha2]at HI;clear ha ha2
 generalize iL p=b2 at HC ⊢
 obtain⟨k,dup,ret,q,t,b,id,c,cl,keep,hw,wt,wb,wq,wr,hu,hp,u,pw,pr,code,wants,aF,fs⟩:=p;simp only at HI;obtain⟨W0,aV⟩:∃W,(w).alloc (.cells (zP k dup ret q t b id c cl keep hw wt wb wq wr hu hp u pw pr code sw sc sf) 29)=W:=⟨_,rfl⟩;have k0:ae (w) W0 []:=by rw[<-aV];exact ae.alloc _ _
 have r0:Row W0 (w).heap.size 29 (zP k dup ret q t b id c cl keep hw wt wb wq wr hu hp u pw pr code sw sc sf):=by rw[<-aV];exact Row.new _ _ _
 have HP:=zh r0;have HK:=zh k0;have HB:=zh (hb.keeps k0);clear k0 r0 hb
 go_enter func109,ntmps109
 go_upto_region 1 with fail
 clear aV
 cases a with
 | true=>
  refine av ax _ 8 rfl (by kernel_rfl) (by kernel_rfl) (λ_=>ae.refl _ _) (λ_ _ _ h k=>h.trans k (by simp)) ?_;simp only[dc,dg,dF,dK];refine lq (.pointer (some ⟨w.heap.size,6,none⟩)) ?_;refine ll 2 (.tmp 4) (⟨w.heap.size,6,none⟩) (.int .i64 id) (λW hW=>((HP.o.keeps hW).cell 6).trans (by kernel_rfl)) ?_;refine aT 52 (#[.int .i64 id,.int .i64 1,.int .i64 65535]) (.bool true) (λ_=>by kernel_rfl) (λ_ _=>by kernel_rfl) (λW hW=>HI.o W) ?_;refine lq (.bool true) ?_;refine ll 30 (.tmp 1) (⟨bx,0,none⟩) (.func (.func i) #[] #[]) (λW hW=>((HB.o.keeps hW).cell 0).trans (by kernel_rfl)) ?_;refine lw 29 (.tmp 2) (w.heap.size) ((zL k dup ret q t b id c cl keep hw wt wb wq wr hu hp u pw pr code sw sc sf)) underlying29 (λW hW=>aD (HP.o.keeps hW)) ?_;refine pg i (#[]) (#[.agg (zP k dup ret q t b id c cl keep hw wt wb wq wr hu hp u pw pr code sw sc sf)]) (#[.agg (zP k dup ret q t b id c cl keep hw wt wb wq wr hu hp u pw pr code sw sc sf)]) (.bool b2) (by first | rfl | simp) rfl hr (λ_=>by kernel_rfl) (λ_ _=>by kernel_rfl) (λW hW=>HC.o W (HK.o.ah hW)) ?_;refine lq (.bool b2) ?_;refine aq (λW vals hW ag=> ?_);simp only[af,aw]at ag
  try simp only[ai]at ag
  simp only[af,fill,Act.put,bo,bn,bh]
  go_wp2_with fail
  go_ret;exact⟨rfl,HK.o.ah hW⟩
 | false=>
  refine av ax _ 8 rfl (by kernel_rfl) (by kernel_rfl) (λ_=>ae.refl _ _) (λ_ _ _ h k=>h.trans k (by simp)) ?_;simp only[dc,dg,dF,dK];refine lq (.pointer (some ⟨w.heap.size,6,none⟩)) ?_;refine ll 2 (.tmp 4) (⟨w.heap.size,6,none⟩) (.int .i64 id) (λW hW=>((HP.o.keeps hW).cell 6).trans (by kernel_rfl)) ?_;refine aT 52 (#[.int .i64 id,.int .i64 1,.int .i64 65535]) (.bool false) (λ_=>by kernel_rfl) (λ_ _=>by kernel_rfl) (λW hW=>HI.o W) ?_;refine lq (.bool false) ?_
  iterate 3
   refine lo ?_
  refine lq (.bool false) ?_;refine aq (λW vals hW ag=> ?_);simp only[af,aw]at ag
  try simp only[ai]at ag
  simp only[af,fill,Act.put,bo,bn,bh]
  go_wp2_with fail
  go_ret;exact⟨rfl,HK.o.ah hW⟩
theorem CX (p:Pk)(sw sc sf:Value)(w:au)(hk:p.k=2):Calls prog 51 #[eO p sw sc sf] w (aJ w (cK p)):=by
 have HX:=zh (show cK p=(dz p.code 0 5 && (p.code==0 || !p.pr))by unfold cK;rw[aj (by omega),aE hk]);have CI:=zh (λW=>jn p.code 0 5 W);clear hk
 generalize cK p=X at HX ⊢
 obtain⟨k,dup,ret,q,t,b,id,c,cl,keep,hw,wt,wb,wq,wr,hu,hp,u,pw,pr,code,wants,aF,fs⟩:=p;simp only at HX CI
 generalize dz code 0 5=xi at HX CI
 obtain⟨z,hz⟩:∃x,(code==0)=x:=⟨_,rfl⟩;rw[hz]at HX;obtain⟨W0,aV⟩:∃W,(w).alloc (.cells (zP k dup ret q t b id c cl keep hw wt wb wq wr hu hp u pw pr code sw sc sf) 29)=W:=⟨_,rfl⟩;have k0:ae (w) W0 []:=by rw[<-aV];exact ae.alloc _ _
 have r0:Row W0 (w).heap.size 29 (zP k dup ret q t b id c cl keep hw wt wb wq wr hu hp u pw pr code sw sc sf):=by rw[<-aV];exact Row.new _ _ _
 have HP:=zh r0;have HK:=zh k0;have jM:=zh (ae.refl W0 []);clear k0 r0
 go_enter func51,ntmps51
 go_upto_region 1 with fail
 clear aV
 cases xi with
 | true=>
  cases z with
  | true=>
   refine av ax _ 13 rfl (by kernel_rfl) (by kernel_rfl) (λ_=>ae.refl _ _) (λ_ _ _ h k=>h.trans k (by simp)) ?_;simp only[dc,dg,dF,dK];refine lq (.pointer (some ⟨w.heap.size,20,none⟩)) ?_;refine ll 3 (.tmp 3) (⟨w.heap.size,20,none⟩) (.int .i64 code) (λW hW=>((HP.o.keeps (jM.o.ah hW)).cell 20).trans (by kernel_rfl)) ?_;refine aT 52 (#[.int .i64 code,.int .i64 0,.int .i64 5]) (.bool true) (λ_=>by kernel_rfl) (λ_ _=>by kernel_rfl) (λW hW=>CI.o W) ?_;refine lq (.bool true) ?_;refine lq (.pointer (some ⟨w.heap.size,20,none⟩)) ?_;refine ll 3 (.tmp 7) (⟨w.heap.size,20,none⟩) (.int .i64 code) (λW hW=>((HP.o.keeps (jM.o.ah hW)).cell 20).trans (by kernel_rfl)) ?_;refine aK (.bool true) (λ_=>by kernel_rfl) (λW _=>(show _=Result.ok (Next.value (.bool (code==0))) W by kernel_rfl).trans (by rw[hz])) ?_;refine lq (.bool true) ?_
   iterate 3
    refine lo ?_
   iterate 2
    refine lq (.bool true) ?_
   refine aq (λW vals hW ag=> ?_);simp only[af,aw]at ag
   try simp only[ai]at ag
   simp only[af,fill,Act.put,bo,bn,bh]
   go_wp2_with fail
   go_ret;exact⟨by rw[HX.o];rfl,HK.o.ah hW⟩
  | false=>
   refine av ax _ 13 rfl (by kernel_rfl) (by kernel_rfl) (λ_=>ae.refl _ _) (λ_ _ _ h k=>h.trans k (by simp)) ?_;simp only[dc,dg,dF,dK];refine lq (.pointer (some ⟨w.heap.size,20,none⟩)) ?_;refine ll 3 (.tmp 3) (⟨w.heap.size,20,none⟩) (.int .i64 code) (λW hW=>((HP.o.keeps (jM.o.ah hW)).cell 20).trans (by kernel_rfl)) ?_;refine aT 52 (#[.int .i64 code,.int .i64 0,.int .i64 5]) (.bool true) (λ_=>by kernel_rfl) (λ_ _=>by kernel_rfl) (λW hW=>CI.o W) ?_;refine lq (.bool true) ?_;refine lq (.pointer (some ⟨w.heap.size,20,none⟩)) ?_;refine ll 3 (.tmp 7) (⟨w.heap.size,20,none⟩) (.int .i64 code) (λW hW=>((HP.o.keeps (jM.o.ah hW)).cell 20).trans (by kernel_rfl)) ?_;refine aK (.bool false) (λ_=>by kernel_rfl) (λW _=>(show _=Result.ok (Next.value (.bool (code==0))) W by kernel_rfl).trans (by rw[hz])) ?_;refine lq (.bool false) ?_;refine lq (.pointer (some ⟨w.heap.size,19,none⟩)) ?_;refine ll 4 (.tmp 11) (⟨w.heap.size,19,none⟩) (.bool pr) (λW hW=>((HP.o.keeps (jM.o.ah hW)).cell 19).trans (by kernel_rfl)) ?_
   iterate 3
    refine lq (.bool (!pr)) ?_
   refine aq (λW vals hW ag=> ?_);simp only[af,aw]at ag
   try simp only[ai]at ag
   simp only[af,fill,Act.put,bo,bn,bh]
   go_wp2_with fail
   go_ret;exact⟨by rw[HX.o];rfl,HK.o.ah hW⟩
 | false=>
  refine av ax _ 13 rfl (by kernel_rfl) (by kernel_rfl) (λ_=>ae.refl _ _) (λ_ _ _ h k=>h.trans k (by simp)) ?_;simp only[dc,dg,dF,dK];refine lq (.pointer (some ⟨w.heap.size,20,none⟩)) ?_;refine ll 3 (.tmp 3) (⟨w.heap.size,20,none⟩) (.int .i64 code) (λW hW=>((HP.o.keeps (jM.o.ah hW)).cell 20).trans (by kernel_rfl)) ?_;refine aT 52 (#[.int .i64 code,.int .i64 0,.int .i64 5]) (.bool false) (λ_=>by kernel_rfl) (λ_ _=>by kernel_rfl) (λW hW=>CI.o W) ?_;refine lq (.bool false) ?_
  iterate 8
   refine lo ?_
  refine lq (.bool false) ?_;refine aq (λW vals hW ag=> ?_);simp only[af,aw]at ag
  try simp only[ai]at ag
  simp only[af,fill,Act.put,bo,bn,bh]
  go_wp2_with fail
  go_ret;exact⟨by rw[HX.o];rfl,HK.o.ah hW⟩
end Go.Proofs.YtahbikfbjenfpaaGreatDoor
