/- Package packet: things are read till nothing is left. -/
import Derived.Test.YtahbikfbjenfpaaGreatDoorPa24
import Derived.Test.YtahbikfbjenfpaaGreatDoorPa20
set_option maxHeartbeats 2000000
set_option maxRecDepth 100000
namespace Go.Proofs.YtahbikfbjenfpaaGreatDoor
open Tryz Go.RowKit

/-- How many bytes a reader has left. -/
def lh (w:au)(r:Nat):Nat:=match w.cell? ⟨r,0,none⟩with
 | some (.slice _ n _)=>n
 | _=>0
theorem Rd.lh {w:au}{base r:Nat}{l:aG}(h:Rd w base r l):Go.Proofs.YtahbikfbjenfpaaGreatDoor.lh w r=l.length:=by
 obtain⟨A,c,h1,_⟩:=h;have e1:=h1.cell 0;simp only[cg,bU]at e1;unfold Go.Proofs.YtahbikfbjenfpaaGreatDoor.lh;rw[e1]
theorem Rd.lt {w:au}{base r:Nat}{l:aG}(h:Rd w base r l):r < w.heap.size:=by
 obtain⟨x,h1⟩:=h.row;exact h1.lt
theorem dn.low {α:Type}{w:au}{B B' :Nat}{e:TypeId}{k:Nat}{f:α->List Value}{v:Value}{l:List α}(h:dn w B e k f v l)(hB:B' <=B):dn w B' e k f v l:=by
 obtain⟨h1,h2⟩:=h;refine⟨h1, ?_⟩
 rcases h2 with h2 | ⟨g,cap,cur,e1,e2,h3⟩
 ·exact .inl h2
 ·exact .inr ⟨g,cap,cur,e1,cH hB e2,h3⟩
/-- Blocks behind the reader are none of its. -/
theorem Rd.far {w w' :au}{base r:Nat}{l:aG}{S:List Nat}(h:Rd w base r l)(hk:ae w w' S)(hS:∀x∈S,r < x):Rd w' base r l:=by
 obtain⟨A,c,h1,h2,h3,h4,h5,h6,h7⟩:=h;refine⟨A,c,h1.keep hk (λhm=>by have:=hS _ hm;omega),h2,h3,h4,h5, ?_,h7⟩;exact(h6.yc hk (bE _) (λb o e hm=>by have:=hS _ hm;have:=(h7 _ e).2;simp at this;omega)).mono hk.size
section
variable {α:Type} {rd:aG->Option (α×aG)} {t u:aG} {a:α} {d:List α} {X:Option (List α)}
theorem mW (hr:∀l a r,rd l=some (a,r)->r.length < l.length)(ht:t≠ [])(e:rd t=some (a,u))(h:X=(bM rd t.length t).map (d++ ·)):X=(bM rd u.length u).map ((d++ [a])++ ·):=by
 have hu:=hr _ _ _ e;obtain⟨f,hf⟩:∃f,t.length=f+1:=⟨t.length - 1,by omega⟩;rw[h,hf,Ct ht (by omega) e,vE hr f u.length u (by omega) (bE _)]
 cases bM rd u.length u with
 | none=>rfl
 | some az=>simp
theorem jH (ht:t≠ [])(e:rd t=none)(h:X=(bM rd t.length t).map (d++ ·)):X=none:=by
 rw[h,Cu ht e];rfl
end
theorem yg:sV prog 25 50 2:=pL (bytes:=24) (z:= .agg #[.string ⟨#[]⟩,.int .i64 0]) (by kernel_rfl) (by kernel_rfl) (by decide) rfl
theorem BF:sV prog 26 3 1:=pL (bytes:=8) (z:= .int .i64 0) (by kernel_rfl) (by kernel_rfl) (by decide) rfl
theorem Hm:sV prog 27 9 1:=pL (bytes:=16) (z:= .string ⟨#[]⟩) (by kernel_rfl) (by kernel_rfl) (by decide) rfl
/-- What reading all does. -/
def zK {α:Type}(w:au)(base r:Nat)(e:TypeId)(k:Nat)(f:α->List Value)(o:Option (List α))(en:Ending)(w' :au):Prop:=ae w w' [r]/\match o with
 | some az=>∃v,en= .returned v/\dn w' w.heap.size e k f v az/\Rd w' base r []
 | none=>en= .panicked [{v:= .iface 67 (.agg #[]),recovered:=false}]
theorem Ib (w:au)(base r bx:Nat)(l:aG)(h:Rd w base r l)(hl:l.length<=100000)
  (HT:∀W t,ae w W [r]->Rd W base r t->Calls prog 70 #[.pointer (some ⟨bx,0,none⟩)] W (DL W base r ((cU t).map λx=>(.agg #[.string ⟨x.1.1.toArray⟩,.int .i64 x.1.2],x.2)))):
  Calls prog 69 #[.agg #[.pointer (some ⟨r,0,none⟩)],.func (.func 70) #[] #[.pointer (some ⟨bx,0,none⟩)]] w (zK w base r 50 2 gK (bM cU l.length l)):=by
 have HT:=zh HT;have PB:=zh (show bx=bx from rfl);obtain⟨W0,aV⟩:∃W0,w.alloc (.cells #[.pointer (some ⟨r,0,none⟩)] 74)=W0:=⟨_,rfl⟩;have k0:ae w W0 []:=by rw[<-aV];exact ae.alloc _ _
 have HB:=zh (show Row W0 w.heap.size 74 #[.pointer (some ⟨r,0,none⟩)]by rw[<-aV];exact Row.new _ _ _);have jM:=zh k0;have FO:=zh (h.keep k0 (by simp));have oe:=zh h.lt;have HX:=zh (show bM cU l.length l=(bM cU l.length l).map ([]++ ·)by cases bM cU l.length l <;> rfl);obtain⟨X,hX⟩:∃X,bM cU l.length l=X:=⟨_,rfl⟩;rw[hX];have HX:=zh (show X=(bM cU l.length l).map ([]++ ·)by rw[<-hX];exact HX.o);clear k0 h hX
 go_enter func69,ntmps69
 go_wp2_with fail
 clear aV
 go_loopw [5] (λv wr=>∃(d:List (aG×Int)) (t:aG),Hid ((dn wr W0.heap.size 50 2 gK v d/\Rd wr base r t)/\ae W0 wr [r]/\X=(bM cU t.length t).map (d++ ·))/\d.length+t.length<=l.length) (λ_ wr=>lh wr r)
 case atStart=>exact⟨[],l,zh ⟨⟨dn.nil _ _ _ _ _,FO.o⟩,ae.refl _ _,HX.o⟩,by simp⟩
 case round=>
  obtain⟨d,t,HJ,Nb⟩:=hrel;have c0:=(HB.o.keep HJ.o.2.1 (by have:=oe.o;simp;omega)).cell 0;simp only[cg,bU]at c0;obtain⟨A,c,rfl⟩:=HJ.o.1.1.slice
  go_wp2_with fail
  refine(dm _ _ _ _ HJ.o.1.2).mono ?_;rintro e w2 ⟨rfl,rfl⟩
  by_cases ht:t= []
  ·subst ht
   have HE:=zh (show X=some d by
    rw[HJ.o.2.2];simp[bM])
   go_wp2_with fail
   go_ret;refine⟨(jM.o.weaken (T:= [r]) (by simp)).trans HJ.o.2.1 (λ_ hx _=>hx), ?_⟩;rw[HE.o];exact⟨_,rfl,HJ.o.1.1.low jM.o.size,HJ.o.1.2⟩
  ·have hgt:0 < t.length:=List.length_pos_iff.2 ht
   have yq:=zh (HT.o wr t ((jM.o.weaken (T:= [r]) (by simp)).trans HJ.o.2.1 (λ_ hx _=>hx)) HJ.o.1.2)
   rcases hr:cU t with _ | ⟨a,u⟩
   ·have HE:=zh (jH ht hr HJ.o.2.2)
    rw[hr]at yq;clear hr ht
    go_wp2_with fail
    refine yq.o.mono ?_;rintro e w3 ⟨hk3,rfl⟩;have fK:=zh ((jM.o.weaken (T:= [r]) (by simp)).trans (HJ.o.2.1.trans hk3 (λ_ hx _=>hx)) (λ_ hx _=>hx));clear hk3;refine⟨rfl,fK.o, ?_⟩;rw[HE.o]
   ·have HG:=zh (mW (λl a r h=>nI h) ht hr HJ.o.2.2)
    have Ol:=nI hr;rw[hr]at yq;clear hr ht
    go_wp2_with fail
    refine yq.o.mono ?_;rintro e w3 ⟨hk3,rfl,cS⟩;have hs3:=hk3.size;have HA:=zh (And.intro (HJ.o.1.1.keep hk3 (λx hx=> .inl (by have:=oe.o;have:=jM.o.size;simp at hx;omega))) (And.intro cS (HJ.o.2.1.trans hk3 (λ_ hx _=>hx))));obtain⟨x,hx⟩:∃x,a=x:=⟨_,rfl⟩;subst hx;clear hk3 cS c0;obtain⟨Wb,fg⟩:∃Wb,w3.alloc (.cells #[.string ⟨a.1.toArray⟩,.int .i64 a.2] 50)=Wb:=⟨_,rfl⟩;have kb:ae w3 Wb []:=by rw[<-fg];exact ae.alloc _ _
    have Er:=zh (show cG Wb Wb.heap.size (some ⟨w3.heap.size,0,none⟩) (([a]:List (aG×Int)).flatMap gK)from fJ (cs:= #[.string ⟨a.1.toArray⟩,.int .i64 a.2]) (by rw[<-fg];exact Row.new _ _ _) rfl);have uE:=zh (And.intro (HA.o.1.keeps kb) (And.intro (HA.o.2.1.keep kb (by simp)) (HA.o.2.2.ah kb)));have hbs:W0.heap.size<=Wb.heap.size:=by
     have:=kb.size;have:=HJ.o.2.1.size;omega
    clear kb
    go_wp2_with (at_builtin;refine eG yg uO rfl (.tmp 10) (.tmp 13) rfl W0.heap.size (.slice A d.length c) (some ⟨w3.heap.size,0,none⟩) 1 1 d [a] rfl rfl rfl uE.o.1 Er.o (by simp;omega) hbs ?_;intro A7 c7 w7 l7 qq uq mq kf qu;refine Hid.o ?_)
    refine zh ?_;have iV:∀g∈(Value.slice A d.length c).ownBlock.toList,W0.heap.size<=g/\∃cs,Row Wb g 50 cs:=uE.o.1.rows;have ku:=zh (uE.o.2.1.far kf (λx hx=>by have:=(iV x hx).1;have:=oe.o;have:=jM.o.size;omega));have iN:=zh (uE.o.2.2.trans kf (λx hx hlt=>absurd (iV x hx).1 (by omega)));have uD:=zh mq;have Es:=zh qq.o;clear mq kf qu iV fg qq
    go_wp2_with fail
    refine⟨⟨l7,u,zh ⟨⟨uD.o,ku.o⟩,iN.o,by rw[Es.o];exact HG.o⟩,by simp at uq;omega⟩, ?_⟩;rw[ku.o.lh,HJ.o.1.2.lh];exact Ol
theorem Ie (w:au)(base r bx:Nat)(l:aG)(h:Rd w base r l)(hl:l.length<=100000)
  (HT:∀W t,ae w W [r]->Rd W base r t->Calls prog 79 #[.pointer (some ⟨bx,0,none⟩)] W (DL W base r ((dC t).map λx=>(.int .i64 x.1,x.2)))):
  Calls prog 78 #[.agg #[.pointer (some ⟨r,0,none⟩)],.func (.func 79) #[] #[.pointer (some ⟨bx,0,none⟩)]] w (zK w base r 3 1 jJ (bM dC l.length l)):=by
 have HT:=zh HT;have PB:=zh (show bx=bx from rfl);obtain⟨W0,aV⟩:∃W0,w.alloc (.cells #[.pointer (some ⟨r,0,none⟩)] 74)=W0:=⟨_,rfl⟩;have k0:ae w W0 []:=by rw[<-aV];exact ae.alloc _ _
 have HB:=zh (show Row W0 w.heap.size 74 #[.pointer (some ⟨r,0,none⟩)]by rw[<-aV];exact Row.new _ _ _);have jM:=zh k0;have FO:=zh (h.keep k0 (by simp));have oe:=zh h.lt;have HX:=zh (show bM dC l.length l=(bM dC l.length l).map ([]++ ·)by cases bM dC l.length l <;> rfl);obtain⟨X,hX⟩:∃X,bM dC l.length l=X:=⟨_,rfl⟩;rw[hX];have HX:=zh (show X=(bM dC l.length l).map ([]++ ·)by rw[<-hX];exact HX.o);clear k0 h hX
 go_enter func78,ntmps78
 go_wp2_with fail
 clear aV
 go_loopw [5] (λv wr=>∃(d:List Int) (t:aG),Hid ((dn wr W0.heap.size 3 1 jJ v d/\Rd wr base r t)/\ae W0 wr [r]/\X=(bM dC t.length t).map (d++ ·))/\d.length+t.length<=l.length) (λ_ wr=>lh wr r)
 case atStart=>exact⟨[],l,zh ⟨⟨dn.nil _ _ _ _ _,FO.o⟩,ae.refl _ _,HX.o⟩,by simp⟩
 case round=>
  obtain⟨d,t,HJ,Nb⟩:=hrel;have c0:=(HB.o.keep HJ.o.2.1 (by have:=oe.o;simp;omega)).cell 0;simp only[cg,bU]at c0;obtain⟨A,c,rfl⟩:=HJ.o.1.1.slice
  go_wp2_with fail
  refine(dm _ _ _ _ HJ.o.1.2).mono ?_;rintro e w2 ⟨rfl,rfl⟩
  by_cases ht:t= []
  ·subst ht
   have HE:=zh (show X=some d by
    rw[HJ.o.2.2];simp[bM])
   go_wp2_with fail
   go_ret;refine⟨(jM.o.weaken (T:= [r]) (by simp)).trans HJ.o.2.1 (λ_ hx _=>hx), ?_⟩;rw[HE.o];exact⟨_,rfl,HJ.o.1.1.low jM.o.size,HJ.o.1.2⟩
  ·have hgt:0 < t.length:=List.length_pos_iff.2 ht
   have yq:=zh (HT.o wr t ((jM.o.weaken (T:= [r]) (by simp)).trans HJ.o.2.1 (λ_ hx _=>hx)) HJ.o.1.2)
   rcases hr:dC t with _ | ⟨a,u⟩
   ·have HE:=zh (jH ht hr HJ.o.2.2)
    rw[hr]at yq;clear hr ht
    go_wp2_with fail
    refine yq.o.mono ?_;rintro e w3 ⟨hk3,rfl⟩;have fK:=zh ((jM.o.weaken (T:= [r]) (by simp)).trans (HJ.o.2.1.trans hk3 (λ_ hx _=>hx)) (λ_ hx _=>hx));clear hk3;refine⟨rfl,fK.o, ?_⟩;rw[HE.o]
   ·have HG:=zh (mW (λl a r h=>nM h) ht hr HJ.o.2.2)
    have Ol:=nM hr;rw[hr]at yq;clear hr ht
    go_wp2_with fail
    refine yq.o.mono ?_;rintro e w3 ⟨hk3,rfl,cS⟩;have hs3:=hk3.size;have HA:=zh (And.intro (HJ.o.1.1.keep hk3 (λx hx=> .inl (by have:=oe.o;have:=jM.o.size;simp at hx;omega))) (And.intro cS (HJ.o.2.1.trans hk3 (λ_ hx _=>hx))));obtain⟨x,hx⟩:∃x,a=x:=⟨_,rfl⟩;subst hx;clear hk3 cS c0;obtain⟨Wb,fg⟩:∃Wb,w3.alloc (.cells #[.int .i64 a] 3)=Wb:=⟨_,rfl⟩;have kb:ae w3 Wb []:=by rw[<-fg];exact ae.alloc _ _
    have Er:=zh (show cG Wb Wb.heap.size (some ⟨w3.heap.size,0,none⟩) (([a]:List Int).flatMap jJ)from fJ (cs:= #[.int .i64 a]) (by rw[<-fg];exact Row.new _ _ _) rfl);have uE:=zh (And.intro (HA.o.1.keeps kb) (And.intro (HA.o.2.1.keep kb (by simp)) (HA.o.2.2.ah kb)));have hbs:W0.heap.size<=Wb.heap.size:=by
     have:=kb.size;have:=HJ.o.2.1.size;omega
    clear kb
    go_wp2_with (at_builtin;refine eG BF p_ rfl (.tmp 10) (.tmp 13) rfl W0.heap.size (.slice A d.length c) (some ⟨w3.heap.size,0,none⟩) 1 1 d [a] rfl rfl rfl uE.o.1 Er.o (by simp;omega) hbs ?_;intro A7 c7 w7 l7 qq uq mq kf qu;refine Hid.o ?_)
    refine zh ?_;have iV:∀g∈(Value.slice A d.length c).ownBlock.toList,W0.heap.size<=g/\∃cs,Row Wb g 3 cs:=uE.o.1.rows;have ku:=zh (uE.o.2.1.far kf (λx hx=>by have:=(iV x hx).1;have:=oe.o;have:=jM.o.size;omega));have iN:=zh (uE.o.2.2.trans kf (λx hx hlt=>absurd (iV x hx).1 (by omega)));have uD:=zh mq;have Es:=zh qq.o;clear mq kf qu iV fg qq
    go_wp2_with fail
    refine⟨⟨l7,u,zh ⟨⟨uD.o,ku.o⟩,iN.o,by rw[Es.o];exact HG.o⟩,by simp at uq;omega⟩, ?_⟩;rw[ku.o.lh,HJ.o.1.2.lh];exact Ol
theorem Ic (w:au)(base r bx:Nat)(l:aG)(h:Rd w base r l)(hl:l.length<=100000)
  (HT:∀W t,ae w W [r]->Rd W base r t->Calls prog 71 #[.agg #[.pointer (some ⟨r,0,none⟩)]] W (DL W base r ((cQ t).map λx=>(.string ⟨x.1.toArray⟩,x.2)))):
  Calls prog 85 #[.agg #[.pointer (some ⟨r,0,none⟩)],.func (.func 71) #[.agg #[.pointer (some ⟨r,0,none⟩)]] #[]] w (zK w base r 9 1 fC (bM cQ l.length l)):=by
 have HT:=zh HT;have PB:=zh (show bx=bx from rfl);obtain⟨W0,aV⟩:∃W0,w.alloc (.cells #[.pointer (some ⟨r,0,none⟩)] 74)=W0:=⟨_,rfl⟩;have k0:ae w W0 []:=by rw[<-aV];exact ae.alloc _ _
 have HB:=zh (show Row W0 w.heap.size 74 #[.pointer (some ⟨r,0,none⟩)]by rw[<-aV];exact Row.new _ _ _);have jM:=zh k0;have FO:=zh (h.keep k0 (by simp));have oe:=zh h.lt;have HX:=zh (show bM cQ l.length l=(bM cQ l.length l).map ([]++ ·)by cases bM cQ l.length l <;> rfl);obtain⟨X,hX⟩:∃X,bM cQ l.length l=X:=⟨_,rfl⟩;rw[hX];have HX:=zh (show X=(bM cQ l.length l).map ([]++ ·)by rw[<-hX];exact HX.o);clear k0 h hX
 go_enter func85,ntmps85
 go_wp2_with fail
 clear aV
 go_loopw [5] (λv wr=>∃(d:List aG) (t:aG),Hid ((dn wr W0.heap.size 9 1 fC v d/\Rd wr base r t)/\ae W0 wr [r]/\X=(bM cQ t.length t).map (d++ ·))/\d.length+t.length<=l.length) (λ_ wr=>lh wr r)
 case atStart=>exact⟨[],l,zh ⟨⟨dn.nil _ _ _ _ _,FO.o⟩,ae.refl _ _,HX.o⟩,by simp⟩
 case round=>
  obtain⟨d,t,HJ,Nb⟩:=hrel;have c0:=(HB.o.keep HJ.o.2.1 (by have:=oe.o;simp;omega)).cell 0;simp only[cg,bU]at c0;obtain⟨A,c,rfl⟩:=HJ.o.1.1.slice
  go_wp2_with fail
  refine(dm _ _ _ _ HJ.o.1.2).mono ?_;rintro e w2 ⟨rfl,rfl⟩
  by_cases ht:t= []
  ·subst ht
   have HE:=zh (show X=some d by
    rw[HJ.o.2.2];simp[bM])
   go_wp2_with fail
   go_ret;refine⟨(jM.o.weaken (T:= [r]) (by simp)).trans HJ.o.2.1 (λ_ hx _=>hx), ?_⟩;rw[HE.o];exact⟨_,rfl,HJ.o.1.1.low jM.o.size,HJ.o.1.2⟩
  ·have hgt:0 < t.length:=List.length_pos_iff.2 ht
   have yq:=zh (HT.o wr t ((jM.o.weaken (T:= [r]) (by simp)).trans HJ.o.2.1 (λ_ hx _=>hx)) HJ.o.1.2)
   rcases hr:cQ t with _ | ⟨a,u⟩
   ·have HE:=zh (jH ht hr HJ.o.2.2)
    rw[hr]at yq;clear hr ht
    go_wp2_with fail
    refine yq.o.mono ?_;rintro e w3 ⟨hk3,rfl⟩;have fK:=zh ((jM.o.weaken (T:= [r]) (by simp)).trans (HJ.o.2.1.trans hk3 (λ_ hx _=>hx)) (λ_ hx _=>hx));clear hk3;refine⟨rfl,fK.o, ?_⟩;rw[HE.o]
   ·have HG:=zh (mW (λl a r h=>mV h) ht hr HJ.o.2.2)
    have Ol:=mV hr;rw[hr]at yq;clear hr ht
    go_wp2_with fail
    refine yq.o.mono ?_;rintro e w3 ⟨hk3,rfl,cS⟩;have hs3:=hk3.size;have HA:=zh (And.intro (HJ.o.1.1.keep hk3 (λx hx=> .inl (by have:=oe.o;have:=jM.o.size;simp at hx;omega))) (And.intro cS (HJ.o.2.1.trans hk3 (λ_ hx _=>hx))));obtain⟨x,hx⟩:∃x,a=x:=⟨_,rfl⟩;subst hx;clear hk3 cS c0;obtain⟨Wb,fg⟩:∃Wb,w3.alloc (.cells #[.string ⟨a.toArray⟩] 9)=Wb:=⟨_,rfl⟩;have kb:ae w3 Wb []:=by rw[<-fg];exact ae.alloc _ _
    have Er:=zh (show cG Wb Wb.heap.size (some ⟨w3.heap.size,0,none⟩) (([a]:List aG).flatMap fC)from fJ (cs:= #[.string ⟨a.toArray⟩]) (by rw[<-fg];exact Row.new _ _ _) rfl);have uE:=zh (And.intro (HA.o.1.keeps kb) (And.intro (HA.o.2.1.keep kb (by simp)) (HA.o.2.2.ah kb)));have hbs:W0.heap.size<=Wb.heap.size:=by
     have:=kb.size;have:=HJ.o.2.1.size;omega
    clear kb
    go_wp2_with (at_builtin;refine eG Hm mE rfl (.tmp 10) (.tmp 13) rfl W0.heap.size (.slice A d.length c) (some ⟨w3.heap.size,0,none⟩) 1 1 d [a] rfl rfl rfl uE.o.1 Er.o (by simp;omega) hbs ?_;intro A7 c7 w7 l7 qq uq mq kf qu;refine Hid.o ?_)
    refine zh ?_;have iV:∀g∈(Value.slice A d.length c).ownBlock.toList,W0.heap.size<=g/\∃cs,Row Wb g 9 cs:=uE.o.1.rows;have ku:=zh (uE.o.2.1.far kf (λx hx=>by have:=(iV x hx).1;have:=oe.o;have:=jM.o.size;omega));have iN:=zh (uE.o.2.2.trans kf (λx hx hlt=>absurd (iV x hx).1 (by omega)));have uD:=zh mq;have Es:=zh qq.o;clear mq kf qu iV fg qq
    go_wp2_with fail
    refine⟨⟨l7,u,zh ⟨⟨uD.o,ku.o⟩,iN.o,by rw[Es.o];exact HG.o⟩,by simp at uq;omega⟩, ?_⟩;rw[ku.o.lh,HJ.o.1.2.lh];exact Ol
end Go.Proofs.YtahbikfbjenfpaaGreatDoor
