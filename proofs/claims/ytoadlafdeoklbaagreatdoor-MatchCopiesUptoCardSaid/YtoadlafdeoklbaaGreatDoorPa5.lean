/- Package match, plain: who is told. Package match, plain: beginnings of filters, what stands at them. Words for rows of elements of many cells. All blocks of cells but one are as they were. -/
import Derived.Test.YtoadlafdeoklbaaGreatDoorPa4
import Derived.Test.YtoadlafdeoklbaaGreatDoorPa0

namespace Go.Proofs.YtoadlafdeoklbaaGreatDoor
open Go

/-- One more is told, in the reference's way. -/
def tdIns:List (List UInt8×Int)→List UInt8→Int→List (List UInt8×Int)
 | [],c,q=> [(c,q)]
 | (d,r)::t,c,q=>if Op.bytesLess d c=true then(d,r)::tdIns t c q else if d=c then(d,max r q)::t else(c,q)::(d,r)::t
def TdUp (o:List (List UInt8×Int)):Prop:=o.Pairwise fun a b=>Op.bytesLess a.1 b.1=true
theorem tdIns_up:∀{o:List (List UInt8×Int)},TdUp o→∀c q,TdUp (tdIns o c q)∧∀d r,(d,r)∈tdIns o c q↔(d≠c∧(d,r)∈o)∨(d=c∧((∃r0,(c,r0)∈o∧r=max r0 q)∨((∀r0,(c,r0)∉o)∧r=q)))
 | [],_,c,q=>by
  refine⟨by simp[tdIns,TdUp],fun d r=> ?_⟩;simp only[tdIns,List.mem_singleton,Prod.mk.injEq,List.not_mem_nil,and_false,false_or,not_false_eq_true,implies_true,true_and,false_and,exists_false]
 | (d0,r0)::t,h,c,q=>by
  obtain⟨g1,g2⟩:=List.pairwise_cons.1 h;obtain⟨i1,i2⟩:=tdIns_up g2 c q;unfold tdIns
  by_cases hl:Op.bytesLess d0 c=true
  ·rw[if_pos hl]
   have hne:c≠d0:=fun e=>by rw[e,bl_irrefl]at hl;cases hl
   refine⟨List.pairwise_cons.2 ⟨fun y hy=> ?_,i1⟩,fun d r=> ?_⟩
   ·obtain⟨y1,y2⟩:=y
    rcases(i2 y1 y2).1 hy with⟨_,h3⟩ | ⟨rfl,_⟩
    ·exact g1 _ h3
    ·exact hl
   ·rw[List.mem_cons,i2,List.mem_cons]
    simp only[List.mem_cons,Prod.mk.injEq]
    constructor
    ·rintro(⟨rfl,rfl⟩ | ⟨h1,h2⟩ | ⟨rfl,h2⟩)
     ·exact .inl ⟨fun e=>hne e.symm,.inl ⟨rfl,rfl⟩⟩
     ·exact .inl ⟨h1,.inr h2⟩
     ·refine .inr ⟨rfl, ?_⟩
      rcases h2 with⟨r1,h3,h4⟩ | ⟨h3,h4⟩
      ·exact .inl ⟨r1,.inr h3,h4⟩
      ·refine .inr ⟨fun r1 h5=> ?_,h4⟩
       rcases h5 with⟨h5,_⟩ | h5
       ·exact hne h5
       ·exact h3 r1 h5
    ·rintro(⟨h1,⟨rfl,rfl⟩ | h2⟩ | ⟨rfl,h2⟩)
     ·exact .inl ⟨rfl,rfl⟩
     ·exact .inr (.inl ⟨h1,h2⟩)
     ·refine .inr (.inr ⟨rfl, ?_⟩)
      rcases h2 with⟨r1,⟨h3,_⟩ | h3,h4⟩ | ⟨h3,h4⟩
      ·exact absurd h3 hne
      ·exact .inl ⟨r1,h3,h4⟩
      ·exact .inr ⟨fun r1 h5=>h3 r1 (.inr h5),h4⟩
  ·rw[if_neg hl]
   by_cases he:d0=c
   ·subst he
    rw[if_pos rfl];have no:∀s,(d0,s)∉t:=fun s hs=>by
     have:=g1 _ hs;rw[bl_irrefl]at this
     cases this
    refine⟨List.pairwise_cons.2 ⟨g1,g2⟩,fun d r=> ?_⟩;rw[List.mem_cons,List.mem_cons];simp only[List.mem_cons,Prod.mk.injEq,true_and]
    constructor
    ·rintro(⟨rfl,rfl⟩ | h1)
     ·exact .inr ⟨rfl,.inl ⟨r0,.inl rfl,rfl⟩⟩
     ·exact .inl ⟨fun e=>no r (e▸h1),.inr h1⟩
    ·rintro(⟨h1,⟨h2,_⟩ | h2⟩ | ⟨rfl,⟨r1,rfl | h3,h4⟩ | ⟨h3,_⟩⟩)
     ·exact absurd h2 h1
     ·exact .inr h2
     ·exact .inl ⟨rfl,h4⟩
     ·exact absurd h3 (no r1)
     ·exact absurd (.inl rfl) (h3 r0)
   ·rw[if_neg he]
    have hcd:Op.bytesLess c d0=true:=by
     rcases bl_tri d0 c with e | e | e
     ·exact absurd e hl
     ·exact absurd e he
     ·exact e
    have no:∀s,(c,s)∉(d0,r0)::t:=fun s hs=>by
     rcases List.mem_cons.1 hs with e | e
     ·exact he (congrArg Prod.fst e).symm
     ·have h1:=bl_trans hcd (g1 _ e)
      rw[bl_irrefl]at h1
      cases h1
    refine⟨List.pairwise_cons.2 ⟨fun y hy=> ?_,h⟩,fun d r=> ?_⟩
    ·rcases List.mem_cons.1 hy with rfl | hy
     ·exact hcd
     ·exact bl_trans hcd (g1 _ hy)
    ·rw[List.mem_cons]
     constructor
     ·rintro(e | h1)
      ·injection e with e1 e2
       subst e1 e2;exact .inr ⟨rfl,.inr ⟨no,rfl⟩⟩
      ·exact .inl ⟨fun e=>no r (e▸h1),h1⟩
     ·rintro(⟨_,h2⟩ | ⟨rfl,⟨r1,h3,_⟩ | ⟨_,rfl⟩⟩)
      ·exact .inr h2
      ·exact absurd h3 (no r1)
      ·exact .inl rfl
/-- The greatest of a client. -/
def TdMax (V:Sb→Prop)(c:List UInt8)(q:Int):Prop:=(∃x,V x∧x.c=c∧x.q=q)∧∀x,V x→x.c=c→x.q≤q
theorem TdMax.one {V:Sb→Prop}{c:List UInt8}{q r:Int}(h:TdMax V c q)(g:TdMax V c r):q=r:=by
 obtain⟨⟨x,x1,x2,x3⟩,h2⟩:=h;obtain⟨⟨y,y1,y2,y3⟩,g2⟩:=g;have:=h2 y y1 y2;have:=g2 x x1 x2;omega
theorem TdMax.congr {V U:Sb→Prop}{c:List UInt8}{q:Int}(h:∀x,V x↔U x):TdMax V c q↔TdMax U c q:=by
 unfold TdMax
 constructor
 ·rintro⟨⟨x,x1,x2⟩,g⟩
  exact⟨⟨x,(h x).1 x1,x2⟩,fun y hy=>g y ((h y).2 hy)⟩
 ·rintro⟨⟨x,x1,x2⟩,g⟩
  exact⟨⟨x,(h x).2 x1,x2⟩,fun y hy=>g y ((h y).1 hy)⟩
/-- What is gathered: of each client the greatest. -/
def ByIs (V:Sb→Prop)(g:List UInt8→Option Int):Prop:=∀c,(∀q,g c=some q→TdMax V c q)∧(g c=none→∀x,V x→x.c≠c)
theorem ByIs.nil:ByIs (fun _=>False) fun _=>none:=fun _=>⟨(fun _ h=>by cases h),fun _ _ h=>h.elim⟩
theorem ByIs.congr {V U:Sb→Prop}{g:List UInt8→Option Int}(h:ByIs V g)(e:∀x,V x↔U x):ByIs U g:=fun c=>⟨fun q hq=>(TdMax.congr e).1 ((h c).1 q hq),fun hn x hx=>(h c).2 hn x ((e x).2 hx)⟩
theorem ByIs.add {V:Sb→Prop}{g:List UInt8→Option Int}(h:ByIs V g)(s:Sb)(h0:0≤s.q):ByIs (fun x=>V x∨x=s) (fun c=>if c=s.c then some (max ((g c).getD 0) s.q)else g c):=by
 intro c
 by_cases e:c=s.c
 ·subst e
  dsimp only
  rw[if_pos rfl];refine⟨fun q hq=> ?_,fun hn=>by cases hn⟩;obtain rfl:=Option.some.inj hq
  cases hg:g s.c with
  | none=>
   refine⟨⟨s,.inr rfl,rfl,by simp;omega⟩,fun x hx hc=> ?_⟩
   rcases hx with hx | rfl
   ·exact absurd hc ((h s.c).2 hg x hx)
   ·simp
    omega
  | some r=>
   obtain⟨⟨y,y1,y2,y3⟩,g2⟩:=(h s.c).1 r hg;refine⟨?_,fun x hx hc=> ?_⟩
   ·by_cases hr:r≤s.q
    ·exact⟨s,.inr rfl,rfl,by simp;omega⟩
    ·exact⟨y,.inl y1,y2,by simp;omega⟩
   ·rcases hx with hx | rfl
    ·have:=g2 x hx hc
     simp;omega
    ·simp
     omega
 ·dsimp only
  rw[if_neg e];refine⟨fun q hq=> ?_,fun hn x hx hc=> ?_⟩
  ·obtain⟨⟨y,y1,y2,y3⟩,g2⟩:=(h c).1 q hq
   refine⟨⟨y,.inl y1,y2,y3⟩,fun x hx hc=> ?_⟩
   rcases hx with hx | rfl
   ·exact g2 x hx hc
   ·exact absurd hc.symm e
  ·rcases hx with hx | rfl
   ·exact(h c).2 hn x hx hc
   ·exact e hc.symm
/-- Who is told of what is gathered. -/
structure TdIs (V:Sb→Prop)(o:List (List UInt8×Int)):Prop where
 up:TdUp o
 is:∀c q,(c,q)∈o↔TdMax V c q
theorem TdIs.one {V:Sb→Prop}{o p:List (List UInt8×Int)}(h:TdIs V o)(g:TdIs V p):o=p:=
 up_ext (lt:=fun a b:List UInt8×Int=>Op.bytesLess a.1 b.1) (fun a=>bl_irrefl a.1) (fun _ _ e=>bl_asymm e) h.up g.up fun x=>by
  obtain⟨c,q⟩:=x;rw[h.is,g.is]
theorem TdIs.congr {V U:Sb→Prop}{o:List (List UInt8×Int)}(h:TdIs V o)(e:∀x,V x↔U x):TdIs U o:=⟨h.up,fun c q=>by rw[h.is,TdMax.congr e]⟩
theorem TdIs.nil:TdIs (fun _=>False) []:=⟨List.Pairwise.nil,fun c q=>⟨(fun h=>by cases h),fun h=>by obtain⟨⟨_,h,_⟩,_⟩:=h;exact h.elim⟩⟩
theorem max_there {M:List Sb}{c:List UInt8}:(∃x∈M,x.c=c)→∃q,TdMax (·∈M) c q:=by
 induction M with
 | nil=>rintro⟨_,h,_⟩;cases h
 | cons a M ih=>
  intro h
  by_cases hm:∃x∈M,x.c=c
  ·obtain⟨q,⟨x,x1,x2,x3⟩,h2⟩:=ih hm
   by_cases ha:a.c=c∧q≤a.q
   ·refine⟨a.q,⟨a,by simp,ha.1,rfl⟩,fun y hy hc=> ?_⟩
    rcases List.mem_cons.1 hy with rfl | hy
    ·omega
    ·have:=h2 y hy hc
     omega
   ·refine⟨q,⟨x,List.mem_cons_of_mem _ x1,x2,x3⟩,fun y hy hc=> ?_⟩
    rcases List.mem_cons.1 hy with rfl | hy
    ·have:¬q≤y.q:=fun e=>ha ⟨hc,e⟩
     omega
    ·exact h2 y hy hc
  ·obtain⟨x,hx,hc⟩:=h
   rcases List.mem_cons.1 hx with rfl | hx
   ·refine⟨x.q,⟨x,by simp,hc,rfl⟩,fun y hy hc' => ?_⟩
    rcases List.mem_cons.1 hy with rfl | hy
    ·omega
    ·exact absurd ⟨y,hy,hc'⟩ hm
   ·exact absurd ⟨x,hx,hc⟩ hm
theorem TdIs.ins {M:List Sb}{o:List (List UInt8×Int)}(h:TdIs (·∈M) o)(s:Sb):TdIs (·∈M++ [s]) (tdIns o s.c s.q):=by
 obtain⟨i1,i2⟩:=tdIns_up h.up s.c s.q;refine⟨i1,fun c q=> ?_⟩;rw[i2];simp only[h.is]
 constructor
 ·rintro(⟨h1,⟨x,x1,x2,x3⟩,h3⟩ | ⟨rfl,⟨r0,⟨⟨x,x1,x2,x3⟩,h3⟩,rfl⟩ | ⟨h2,rfl⟩⟩)
  ·refine⟨⟨x,List.mem_append_left _ x1,x2,x3⟩,fun y hy hc=> ?_⟩
   rcases List.mem_append.1 hy with hy | hy
   ·exact h3 y hy hc
   ·obtain rfl:=List.mem_singleton.1 hy
    exact absurd hc.symm h1
  ·refine⟨?_,fun y hy hc=> ?_⟩
   ·by_cases hr:r0≤s.q
    ·exact⟨s,by simp,rfl,by omega⟩
    ·exact⟨x,List.mem_append_left _ x1,x2,by omega⟩
   ·rcases List.mem_append.1 hy with hy | hy
    ·have:=h3 y hy hc
     omega
    ·obtain rfl:=List.mem_singleton.1 hy
     omega
  ·refine⟨⟨s,by simp,rfl,rfl⟩,fun y hy hc=> ?_⟩
   rcases List.mem_append.1 hy with hy | hy
   ·obtain⟨q,hq⟩:=max_there (M:=M) ⟨y,hy,hc⟩
    exact absurd hq (h2 q)
   ·obtain rfl:=List.mem_singleton.1 hy
    omega
 ·rintro⟨⟨x,x1,x2,x3⟩,h3⟩
  by_cases hc:c=s.c
  ·refine .inr ⟨hc, ?_⟩
   subst hc
   by_cases hm:∃y∈M,y.c=s.c
   ·obtain⟨r0,hr0⟩:=max_there hm
    refine .inl ⟨r0,hr0, ?_⟩;obtain⟨⟨y,y1,y2,y3⟩,h4⟩:=hr0;have a1:=h3 y (List.mem_append_left _ y1) y2;have a2:=h3 s (by simp) rfl
    rcases List.mem_append.1 x1 with hx | hx
    ·have:=h4 x hx x2
     omega
    ·obtain rfl:=List.mem_singleton.1 hx
     omega
   ·refine .inr ⟨fun r0 hr=> ?_, ?_⟩
    ·obtain⟨⟨y,y1,y2,_⟩,_⟩:=hr
     exact hm ⟨y,y1,y2⟩
    ·rcases List.mem_append.1 x1 with hx | hx
     ·exact absurd ⟨x,hx,x2⟩ hm
     ·obtain rfl:=List.mem_singleton.1 hx
      exact x3.symm
  ·refine .inl ⟨hc,⟨x, ?_,x2,x3⟩,fun y hy=>h3 y (List.mem_append_left _ hy)⟩
   rcases List.mem_append.1 x1 with hx | hx
   ·exact hx
   ·obtain rfl:=List.mem_singleton.1 hx
    exact absurd x2.symm hc
/-- Who is told of a name. -/
def mtMet (L:List Sb)(n:List UInt8):List Sb:=L.filter fun x=>tMeets x.f n
def mtTold (L:List Sb)(n:List UInt8):List (List UInt8×Int):=(mtMet L n).foldl (fun o x=>tdIns o x.c x.q) []
theorem told_fold:∀(M K:List Sb) (o:List (List UInt8×Int)),TdIs (·∈K) o→TdIs (·∈K++M) (M.foldl (fun o x=>tdIns o x.c x.q) o)
 | [],K,o,h=>by simpa using h
 | a::M,K,o,h=>by
  have:=told_fold M (K++ [a]) _ (h.ins a)
  simpa using this
theorem mtTold_is (L:List Sb)(n:List UInt8):TdIs (·∈mtMet L n) (mtTold L n):=told_fold _ [] [] (TdIs.nil.congr fun x=>by simp)
/-- Do levels that are left meet, in the program's way? -/
def mtMm:List (List UInt8)→List (List UInt8)→Bool→Bool
 | r, [],s=>(s && r== [[35]]) || r.isEmpty
 | r,n::ns,s=>(s && r== [[35]]) || match r with
  | []=>false
  | x::xs=>((s && x== [43]) || x==n) && mtMm xs ns true
theorem mtMm_true {f:List (List UInt8)}(hf:∃ay:List (List UInt8),(∀x∈ay,x= [43]∨tSign x=false)∧(f=ay∨f=ay++ [[35]])):∀n,mtMm f n true=tMeetL f n:=by
 obtain⟨ay,h1,h2⟩:=hf;have h35:=no35 h1;clear h1
 induction ay generalizing f with
 | nil=>
  rcases h2 with rfl | rfl
  ·intro n
   cases n <;> simp[mtMm,tMeetL]
  ·intro n
   cases n <;> simp[mtMm,tMeetL]
 | cons a ay ih=>
  have ha:a≠ [35]:=fun e=>h35 (by simp[e])
  obtain⟨g,rfl,hg⟩:∃g,f=a::g∧(g=ay∨g=ay++ [[35]]):=by
   rcases h2 with rfl | rfl
   ·exact⟨ay,rfl,.inl rfl⟩
   ·exact⟨ay++ [[35]],rfl,.inr rfl⟩
  have hi:=ih (f:=g) hg (fun e=>h35 (List.mem_cons_of_mem _ e));intro n;have hno:((a::g)== [[35]])=false:=by
   rw[←Bool.not_eq_true];intro e;have:=eq_of_beq e;injection this with e1
   exact ha e1
  cases n with
  | nil=>
   rw[mtMm,hno,tMeetL,if_neg ha];rfl
  | cons x ns=>
   rw[mtMm,hno,tMeetL,if_neg ha];simp[hi]
theorem mm_meets {f n:List UInt8}(hf:tFilter f=true)(hn:tName n=true):mtMm (tLev f) (tLev n) (!pre1 36 n)=tMeets f n:=by
 have hsp:=tFilter_split hf;unfold tMeets
 cases hp:pre1 36 n with
 | false=>
  have hs:tStarts f n=true:=by
   unfold tStarts;rw[show(([36]:List UInt8).isPrefixOf n)=false from hp];rfl
  rw[hs,Bool.true_and];exact mtMm_true hsp _
 | true=>
  have hp2:pre1 36 (hd0 (tLev n))=true:=by rw[←pre1_lev (by decide)];exact hp
  obtain⟨x,ns,hx⟩:∃x ns,tLev n=x::ns:=by
   cases h:tLev n with
   | nil=>exact absurd h (tLev_ne n)
   | cons x ns=>exact⟨x,ns,rfl⟩
  obtain⟨r,rs,hr⟩:∃r rs,tLev f=r::rs:=by
   cases h:tLev f with
   | nil=>exact absurd h (tLev_ne f)
   | cons x ns=>exact⟨x,ns,rfl⟩
  rw[hx]at hp2;have hxs:tSign x=false:=((tName_levels hn).2.2 x (by rw[hx];simp)).2.2
  by_cases hs:tStarts f n=true
  ·have h2:=(starts_iff hf).1 hs (by rw[hx];exact hp2)
   rw[hr]at h2;rw[hs,Bool.true_and,hr,hx,mtMm,tMeetL,if_neg (show r≠ [35]from h2.2)];have hi:=mtMm_true (f:=rs) (by
    obtain⟨ay,a1,a2⟩:=hsp
    cases ay with
    | nil=>
     rcases a2 with a2 | a2
     ·rw[hr]at a2
      cases a2
     ·rw[hr]at a2
      injection a2 with e1 e2
      exact absurd e1 h2.2
    | cons b ay=>
     refine⟨ay,fun x hx=>a1 x (List.mem_cons_of_mem _ hx), ?_⟩
     rcases a2 with a2 | a2
     ·rw[hr]at a2
      injection a2 with e1 e2
      exact .inl e2
     ·rw[hr]at a2
      injection a2 with e1 e2
      exact .inr e2)
   have h43:(r== [43])=false:=beq_false_of_ne (show r≠ [43]from h2.1);simp[hi,h43]
  ·have hs' :tStarts f n=false:=by simpa using hs
   have:r= [43]∨r= [35]:=by
    by_cases g1:r= [43]
    ·exact .inl g1
    ·by_cases g2:r= [35]
     ·exact .inr g2
     ·exact absurd ((starts_iff hf).2 fun _=>by rw[hr];exact⟨g1,g2⟩) hs
   have hne:(r==x)=false:=by
    rw[←Bool.not_eq_true];intro e;have e:=eq_of_beq e
    rcases this with g | g
    ·rw[←e,g,tSign_43]at hxs
     cases hxs
    ·rw[←e,g,tSign_35]at hxs
     cases hxs
   rw[hs',Bool.false_and,hr,hx,mtMm];simp[hne]

/-- Does anything go on from a beginning? -/
def Stand (L:List Sb)(p:List (List UInt8)):Prop:=p= []∨∃x∈L,p <+:tLev x.f
theorem Stand.up {L:List Sb}{p q:List (List UInt8)}(h:Stand L (p++q)):Stand L p:=by
 rcases h with h | ⟨x,hx,h⟩
 ·exact .inl (List.append_eq_nil_iff.1 h).1
 ·exact .inr ⟨x,hx,(List.prefix_append p q).trans h⟩
theorem Stand.len {L:List Sb}{p:List (List UInt8)}(hL:∀x∈L,tFilter x.f=true)(h:Stand L p):p.length≤201:=by
 rcases h with rfl | ⟨x,hx,h⟩
 ·simp
 ·have h1:=h.length_le
  have h2:=tLev_len x.f;have h3:=(tFilter_levels (hL x hx)).2.1;omega
theorem lev_inj {a b:List UInt8}(h:tLev a=tLev b):a=b:=by rw[←tJoin_lev a,←tJoin_lev b,h]
theorem stand_set {L:List Sb}(s:Sb)(p:List (List UInt8)):Stand (mtSet L s) p↔Stand L p∨p <+:tLev s.f:=by
 unfold Stand
 constructor
 ·rintro(h | ⟨x,hx,h⟩)
  ·exact .inl (.inl h)
  ·rcases mem_mtSet.1 hx with rfl | ⟨hx,_⟩
   ·exact .inr h
   ·exact .inl (.inr ⟨x,hx,h⟩)
 ·rintro((h | ⟨x,hx,h⟩) | h)
  ·exact .inl h
  ·by_cases e:x.f=s.f∧x.c=s.c
   ·exact .inr ⟨s,mem_mtSet.2 (.inl rfl),by rw[←e.1];exact h⟩
   ·exact .inr ⟨x,mem_mtSet.2 (.inr ⟨hx,e⟩),h⟩
  ·exact .inr ⟨s,mem_mtSet.2 (.inl rfl),h⟩
theorem stand_drop {L:List Sb}{f c:List UInt8}{p:List (List UInt8)}(h:Stand (mtDrop L f c) p):Stand L p:=by
 rcases h with h | ⟨x,hx,h⟩
 ·exact .inl h
 ·exact .inr ⟨x,(mem_mtDrop.1 hx).1,h⟩
/-- The entries of a filter, by client. -/
def hereF (L:List Sb)(p:List (List UInt8))(c:List UInt8):Option Sb:=L.find? fun x=>tLev x.f==p && x.c==c
theorem hereF_iff {L:List Sb}(h:SbUp L){p:List (List UInt8)}{c:List UInt8}{x:Sb}:hereF L p c=some x↔x∈L∧tLev x.f=p∧x.c=c:=by
 unfold hereF
 constructor
 ·intro e
  have h1:=List.find?_some e;simp only[Bool.and_eq_true,beq_iff_eq]at h1;exact⟨List.mem_of_find?_eq_some e,h1.1,h1.2⟩
 ·rintro⟨h1,h2,h3⟩
  cases hf:L.find? fun x=>tLev x.f==p && x.c==c with
  | none=>
   have:=List.find?_eq_none.1 hf x h1;simp[h2,h3]at this
  | some y=>
   have h4:=List.find?_some hf;simp only[Bool.and_eq_true,beq_iff_eq]at h4;rw[h.one (List.mem_of_find?_eq_some hf) h1 (lev_inj (h4.1.trans h2.symm)) (h4.2.trans h3.symm)]
theorem hereF_none {L:List Sb}{p:List (List UInt8)}{c:List UInt8}:hereF L p c=none↔∀x∈L,¬(tLev x.f=p∧x.c=c):=by
 unfold hereF;rw[List.find?_eq_none];simp
theorem hereF_has {L:List Sb}{f c:List UInt8}:(hereF L (tLev f) c).isSome=mtHas L f c:=by
 rw[Bool.eq_iff_iff,mtHas_iff]
 cases h:hereF L (tLev f) c with
 | none=>
  have:=hereF_none.1 h;simp only[Option.isSome_none,Bool.false_eq_true,false_iff];rintro⟨x,hx,rfl,e⟩;exact this x hx ⟨rfl,e⟩
 | some y=>
  unfold hereF at h;have h4:=List.find?_some h;simp only[Bool.and_eq_true,beq_iff_eq]at h4;simp only[Option.isSome_some,true_iff];exact⟨y,List.mem_of_find?_eq_some h,lev_inj h4.1,h4.2⟩
theorem hereF_set {L:List Sb}(h:SbUp L)(s:Sb)(p:List (List UInt8))(c:List UInt8):hereF (mtSet L s) p c=if p=tLev s.f∧c=s.c then some s else hereF L p c:=by
 split
 ·rename_i e
  exact(hereF_iff (h.set s)).2 ⟨mem_mtSet.2 (.inl rfl),e.1.symm,e.2.symm⟩
 ·rename_i e
  refine Option.ext fun x=> ?_
  rw[hereF_iff (h.set s),hereF_iff h,mem_mtSet]
  constructor
  ·rintro⟨rfl | ⟨h1,_⟩,h2,h3⟩
   ·exact absurd ⟨h2.symm,h3.symm⟩ e
   ·exact⟨h1,h2,h3⟩
  ·rintro⟨h1,h2,h3⟩
   exact⟨.inr ⟨h1,fun g=>e ⟨by rw[←h2,g.1],by rw[←h3,g.2]⟩⟩,h2,h3⟩
theorem hereF_drop {L:List Sb}(h:SbUp L)(f d:List UInt8)(p:List (List UInt8))(c:List UInt8):hereF (mtDrop L f d) p c=if p=tLev f∧c=d then none else hereF L p c:=by
 refine Option.ext fun x=> ?_
 rw[hereF_iff (h.drop f d),mem_mtDrop]
 split
 ·rename_i e
  constructor
  ·rintro⟨⟨_,h1⟩,h2,h3⟩
   exact absurd ⟨lev_inj (h2.trans e.1),h3.trans e.2⟩ h1
  ·intro h
   cases h
 ·rename_i e
  rw[hereF_iff h]
  constructor
  ·rintro⟨⟨h1,_⟩,h2⟩
   exact⟨h1,h2⟩
  ·rintro⟨h1,h2,h3⟩
   exact⟨⟨h1,fun g=>e ⟨by rw[←h2,g.1],by rw[←h3,g.2]⟩⟩,h2,h3⟩
/-- The beginnings of a filter. -/
def mtPres (f:List UInt8):List (List (List UInt8)):=(List.range (tLev f).length).map fun k=>(tLev f).take (k+1)
theorem mem_pres {f:List UInt8}{p:List (List UInt8)}:p∈mtPres f↔p≠ []∧p <+:tLev f:=by
 unfold mtPres;rw[List.mem_map]
 constructor
 ·rintro⟨k,hk,rfl⟩
  rw[List.mem_range]at hk;refine⟨fun e=> ?_,List.take_prefix _ _⟩;have:=congrArg List.length e;rw[List.length_take,List.length_nil]at this;omega
 ·rintro⟨h1,h2⟩
  have h3:=h2.length_le;have h4:=List.length_pos_iff.2 h1;refine⟨p.length - 1,by rw[List.mem_range];omega, ?_⟩;rw[show p.length - 1+1=p.length by omega];exact(List.prefix_iff_eq_take.1 h2).symm
def mtSeenAdd (s:List (List (List UInt8)))(p:List (List UInt8)):List (List (List UInt8)):=if p∈s then s else s++ [p]
theorem seen_fold:∀(M K:List (List (List UInt8))),K.Nodup→(M.foldl mtSeenAdd K).Nodup∧(∀p,p∈M.foldl mtSeenAdd K↔p∈K∨p∈M)∧(M.foldl mtSeenAdd K).length≤K.length+M.length
 | [],K,h=>⟨h,by simp,by simp⟩
 | a::M,K,h=>by
  have hN:(mtSeenAdd K a).Nodup:=by
   unfold mtSeenAdd
   split
   ·exact h
   ·rename_i hn
    rw[List.nodup_append];refine⟨h,by simp,fun x hx y hy=> ?_⟩;obtain rfl:=List.mem_singleton.1 hy;rintro rfl;exact hn hx
  obtain⟨h1,h2,h3⟩:=seen_fold M (mtSeenAdd K a) hN;refine⟨h1,fun p=> ?_, ?_⟩
  ·rw[List.foldl_cons,h2]
   unfold mtSeenAdd
   split
   ·rename_i hm
    rw[List.mem_cons]
    constructor
    ·rintro(h | h)
     ·exact .inl h
     ·exact .inr (.inr h)
    ·rintro(h | rfl | h)
     ·exact .inl h
     ·exact .inl hm
     ·exact .inr h
   ·rw[List.mem_append,List.mem_singleton,List.mem_cons,or_assoc]
  ·rw[List.foldl_cons,List.length_cons]
   have:(mtSeenAdd K a).length≤K.length+1:=by
    unfold mtSeenAdd
    split <;> simp
   omega
def mtSeen (L:List Sb):List (List (List UInt8)):=(L.flatMap fun x=>mtPres x.f).foldl mtSeenAdd []
def mtNodes (L:List Sb):Nat:=(mtSeen L).length
theorem mtSeen_nodup (L:List Sb):(mtSeen L).Nodup:=(seen_fold _ [] List.nodup_nil).1
theorem mem_mtSeen {L:List Sb}{p:List (List UInt8)}:p∈mtSeen L↔p≠ []∧Stand L p:=by
 unfold mtSeen;rw[(seen_fold _ [] List.nodup_nil).2.1,List.mem_flatMap];simp only[List.not_mem_nil,false_or,mem_pres];unfold Stand
 constructor
 ·rintro⟨x,hx,h1,h2⟩
  exact⟨h1,.inr ⟨x,hx,h2⟩⟩
 ·rintro⟨h1,h2 | ⟨x,hx,h2⟩⟩
  ·exact absurd h2 h1
  ·exact⟨x,hx,h1,h2⟩
theorem mtNodes_le {L:List Sb}(h:∀x∈L,tFilter x.f=true):mtNodes L≤L.length*201:=by
 have h1:=(seen_fold (L.flatMap fun x=>mtPres x.f) [] List.nodup_nil).2.2;have h2:∀M:List Sb,(∀x∈M,tFilter x.f=true)→(M.flatMap fun x=>mtPres x.f).length≤M.length*201:=by
  intro M
  induction M with
  | nil=>intro _;simp
  | cons a M ih=>
   intro hM;have h3:=ih fun x hx=>hM x (List.mem_cons_of_mem _ hx)
   have h4:=tLev_len a.f;have h5:=(tFilter_levels (hM a (by simp))).2.1;have h6:(mtPres a.f).length=(tLev a.f).length:=by simp[mtPres]
   rw[List.flatMap_cons,List.length_append,List.length_cons];omega
 have h3:=h2 L h;unfold mtNodes mtSeen;simp only[List.length_nil]at h1;omega
/-- How many go on from a beginning. -/
def mtBelow (L:List Sb)(p:List (List UInt8)):Nat:=((mtSeen L).filter fun q=>p.isPrefixOf q && !(q==p)).length
theorem mtBelow_root (L:List Sb):mtBelow L []=mtNodes L:=by
 unfold mtBelow mtNodes
 congr 1
 rw[List.filter_eq_self];intro q hq;have:=(mem_mtSeen.1 hq).1
 cases q with
 | nil=>exact absurd rfl this
 | cons a q=>rfl
theorem part_sum {α β:Type} [BEq β] [LawfulBEq β] (g:α→β):∀(ks:List β),ks.Nodup→∀T:List α,(∀q∈T,g q∈ks)→T.length=(ks.map fun x=>(T.filter fun q=>g q==x).length).sum
 | [],_,T,h=>by
  cases T with
  | nil=>rfl
  | cons a T=>have:=h a (by simp);cases this
 | k::ks,hn,T,h=>by
  obtain⟨n1,n2⟩:=List.nodup_cons.1 hn;have h1:=part_sum g ks n2 (T.filter fun q=> !(g q==k)) fun q hq=>by
   obtain⟨a,b⟩:=List.mem_filter.1 hq
   rcases List.mem_cons.1 (h q a)with e | e
   ·simp[e]at b
   ·exact e
  have h2:T.length=(T.filter fun q=>g q==k).length+(T.filter fun q=> !(g q==k)).length:=by
   clear h h1
   induction T with
   | nil=>rfl
   | cons a T ih=>
    by_cases e:(g a==k)=true
    ·rw[List.filter_cons_of_pos (p:=fun q=>g q==k) e,List.filter_cons_of_neg (p:=fun q=> !(g q==k)) (by simp[e]),List.length_cons,List.length_cons]
     omega
    ·rw[List.filter_cons_of_neg (p:=fun q=>g q==k) e,List.filter_cons_of_pos (p:=fun q=> !(g q==k)) (by simp[e]),List.length_cons,List.length_cons]
     omega
  rw[h2,List.map_cons,List.sum_cons,h1]
  congr 2
  refine List.map_congr_left fun x hx=> ?_
  rw[List.filter_filter]
  congr 1
  refine List.filter_congr fun q _=> ?_
  by_cases e:g q=x
  ·have:¬g q=k:=fun e2=>n1 (by rw[←e2,e];exact hx)
   simp[e];rw[←e];exact this
  ·simp[e]
theorem filter_less {α:Type} [BEq α] [LawfulBEq α] {S:List α}(hn:S.Nodup){a:α}(ha:a∈S){p:α→Bool}(hp:p a=true):(S.filter p).length=1+(S.filter fun q=>p q && !(q==a)).length:=by
 induction S with
 | nil=>cases ha
 | cons b S ih=>
  obtain⟨n1,n2⟩:=List.nodup_cons.1 hn
  by_cases e:b=a
  ·subst e
   rw[List.filter_cons_of_pos hp,List.filter_cons_of_neg (by simp),List.length_cons,Nat.add_comm]
   congr 2
   refine List.filter_congr fun q hq=> ?_
   have:¬q=b:=fun e=>n1 (e▸hq)
   simp[this]
  ·have ha2:a∈S:=by
    rcases List.mem_cons.1 ha with e2 | h
    ·exact absurd e2.symm e
    ·exact h
   have:=ih n2 ha2
   by_cases hb:p b=true
   ·rw[List.filter_cons_of_pos hb,List.filter_cons_of_pos (by simp[hb,e]),List.length_cons,List.length_cons]
    omega
   ·rw[List.filter_cons_of_neg hb,List.filter_cons_of_neg (by simp[hb])]
    exact this
theorem pre_snoc {p q:List (List UInt8)}{x:List UInt8}:(p++ [x]).isPrefixOf q=(p.isPrefixOf q && (!(q==p) && (q.getD p.length []==x && decide (p.length < q.length)))):=by
 rw[Bool.eq_iff_iff];simp only[List.isPrefixOf_iff_prefix,Bool.and_eq_true,Bool.not_eq_true',beq_iff_eq,decide_eq_true_eq,beq_eq_false_iff_ne]
 constructor
 ·rintro⟨t,rfl⟩
  refine⟨⟨[x]++t,by simp⟩,fun e=> ?_, ?_, ?_⟩
  ·have:=congrArg List.length e
   simp at this
  ·simp
  ·simp
 ·rintro⟨⟨t,rfl⟩,h1,h2,h3⟩
  cases t with
  | nil=>simp at h3
  | cons y t=>
   simp at h2;subst h2;exact⟨t,by simp⟩
theorem below_kids {L:List Sb}{p:List (List UInt8)}{ks:List (List UInt8)}(hn:ks.Nodup)(hk:∀x,x∈ks↔Stand L (p++ [x])):mtBelow L p=(ks.map fun x=>1+mtBelow L (p++ [x])).sum:=by
 unfold mtBelow;have hlt:∀q:List (List UInt8),(p.isPrefixOf q && !(q==p))=true→p.length < q.length∧∃x t,q=p++x::t:=by
  intro q hq;simp only[List.isPrefixOf_iff_prefix,Bool.and_eq_true,Bool.not_eq_true',beq_eq_false_iff_ne]at hq;obtain⟨⟨t,rfl⟩,h2⟩:=hq
  cases t with
  | nil=>simp at h2
  | cons x t=>exact⟨by simp,x,t,rfl⟩
 rw[part_sum (fun q:List (List UInt8)=>q.getD p.length []) ks hn _ fun q hq=> ?_]
 ·congr 1
  refine List.map_congr_left fun x hx=> ?_
  have hst:=(hk x).1 hx;have hmem:p++ [x]∈mtSeen L:=mem_mtSeen.2 ⟨by simp,hst⟩;rw[←filter_less (mtSeen_nodup L) hmem (p:=fun q=>(p++ [x]).isPrefixOf q) (by simp),List.filter_filter]
  congr 1
  refine List.filter_congr fun q _=> ?_
  rw[pre_snoc]
  by_cases hq:(p.isPrefixOf q && !(q==p))=true
  ·have:=(hlt q hq).1
   simp only[Bool.and_eq_true]at hq;simp[hq.1,hq.2,this]
  ·have hq2:(p.isPrefixOf q && !(q==p))=false:=by simpa using hq
   rw[hq2,Bool.and_false,←Bool.and_assoc,hq2,Bool.false_and]
 ·obtain⟨h1,h2⟩:=List.mem_filter.1 hq
  obtain⟨h3,x,t,rfl⟩:=hlt q h2;have:(p++x::t).getD p.length []=x:=by simp
  rw[this,hk];have h4:=(mem_mtSeen.1 h1).2;rw[show p++x::t=(p++ [x])++t by simp]at h4;exact h4.up
/-- The entries at a beginning, and behind it. -/
def mtEnt (L:List Sb)(p:List (List UInt8)):List Sb:=L.filter fun x=>p.isPrefixOf (tLev x.f)
def mtHere (L:List Sb)(p:List (List UInt8)):List Sb:=L.filter fun x=>tLev x.f==p
theorem SbUp.nodup {L:List Sb}(h:SbUp L):L.Nodup:=List.Pairwise.imp (fun{a b} (hab:sbLt a b=true) (e:a=b)=>by
 rw[e]at hab;unfold sbLt at hab;rw[kLt_irrefl]at hab
 cases hab) h
theorem mtEnt_root (L:List Sb):mtEnt L []=L:=by
 unfold mtEnt;rw[List.filter_eq_self];intro x _;rfl
theorem ent_kids {L:List Sb}(hL:SbUp L){p:List (List UInt8)}{ks:List (List UInt8)}(hn:ks.Nodup)(hk:∀x,x∈ks↔Stand L (p++ [x])):(mtHere L p++ks.flatMap fun x=>mtEnt L (p++ [x])).Perm (mtEnt L p):=by
 have hd:∀{x y:List UInt8} {q:List (List UInt8)},p++ [x] <+:q→p++ [y] <+:q→x=y:=by
  rintro x y q ⟨t,rfl⟩ ⟨u,hu⟩;simp at hu;exact hu.1.symm
 refine(List.perm_ext_iff_of_nodup ?_ (hL.filter _).nodup).2 fun x=> ?_
 ·rw[List.nodup_append]
  refine⟨(hL.filter _).nodup, ?_,fun a ha b hb e=> ?_⟩
  ·rw[List.flatMap]
   unfold List.Nodup;rw[List.pairwise_flatten];refine⟨fun l hl=> ?_, ?_⟩
   ·obtain⟨y,_,rfl⟩:=List.mem_map.1 hl
    exact(hL.filter _).nodup
   ·rw[List.pairwise_map]
    refine hn.imp fun{a b} hab=> ?_
    intro y hy z hz e;subst e;have h1:=List.isPrefixOf_iff_prefix.1 (List.mem_filter.1 hy).2;have h2:=List.isPrefixOf_iff_prefix.1 (List.mem_filter.1 hz).2;exact hab (hd h1 h2)
  ·subst e
   obtain⟨y,_,hy⟩:=List.mem_flatMap.1 hb;have h1:=(List.mem_filter.1 ha).2;have h2:=(List.isPrefixOf_iff_prefix.1 (List.mem_filter.1 hy).2).length_le;have h3:tLev a.f=p:=eq_of_beq h1;rw[h3,List.length_append,List.length_singleton]at h2;omega
 ·rw[List.mem_append,List.mem_flatMap]
  unfold mtHere mtEnt;simp only[List.mem_filter,List.isPrefixOf_iff_prefix,beq_iff_eq]
  constructor
  ·rintro(⟨h1,h2⟩ | ⟨y,_,h1,h2⟩)
   ·exact⟨h1,by rw[h2];exact List.prefix_refl _⟩
   ·exact⟨h1,(List.prefix_append p [y]).trans h2⟩
  ·rintro⟨h1,⟨t,h2⟩⟩
   cases t with
   | nil=>exact .inl ⟨h1,by simpa using h2.symm⟩
   | cons y t=>
    have h3:p++ [y] <+:tLev x.f:=⟨t,by rw[←h2];simp⟩;exact .inr ⟨y,(hk y).2 (.inr ⟨x,h1,h3⟩),h1,h3⟩
end Go.Proofs.YtoadlafdeoklbaaGreatDoor

namespace Go.Proofs.YtoadlafdeoklbaaGreatDoor
open Go.RowKit

section
variable {w w' :World} {base base' size n c:Nat} {e:TypeId} {v:Value} {xs:List Value} {S:List Nat} {A:Option Addr}
theorem ownN_slice (h:w.ownsRow base e size v n xs):∃A c,v= .slice A n c∧n≤c∧c≤maxLen:=by
 rcases h.2 with⟨rfl,rfl⟩ | ⟨g,cap,cur,rfl,_,_,hnc,hcm,_⟩
 ·exact⟨none,0,rfl,Nat.le_refl _,by simp[maxLen]⟩
 ·exact⟨_,cap,rfl,hnc,hcm⟩
theorem ownN_keep (h:w.ownsRow base e size v n xs)(hk:Keeps w w' S)(hs:∀g,v.ownBlock=some g→g∉S):w'.ownsRow base e size v n xs:=by
 obtain⟨h1,h2⟩:=h;refine⟨h1, ?_⟩
 rcases h2 with h2 | ⟨g,cap,cur,hv,hg,hh,r⟩
 ·exact .inl h2
 ·subst hv
  have hlt:g < w.heap.size:=(Array.getElem?_eq_some_iff.1 hh).1;exact .inr ⟨g,cap,cur,rfl,hg,(hk.block g hlt (hs g rfl)).trans hh,r⟩
theorem ownN_row (h:w.ownsRow base e size v n xs):∀g,v.ownBlock=some g→base≤g∧∃cs,Row w g e cs:=fun g hg=>by
 rcases h.2 with⟨rfl,_⟩ | ⟨gb,cap,cur,rfl,e2,hh,_⟩
 ·simp[Value.ownBlock]at hg
 ·obtain rfl:gb=g:=by simpa [Value.ownBlock]using hg
  exact⟨e2,cur,hh⟩
end
section
variable {P:Program} (w:World)
/-- append onto a row of the call's own (or onto nil), the source nil, empty or not. -/
theorem run_append_liesN (base:Nat)(t ty e:TypeId)(i:TypeInfo)(z:Value)(size bytes:Nat)(ht:P.underlying t=some (.slice e))(hi:P.info? e=some i)(hz:i.zero=some z)
  (hsize:i.size=size) (hby:i.bytes=bytes) (hzs:z.cells.size=size) (hsz:0 < size)
  (v:Value) (n:Nat) (xs:List Value) (hown:w.ownsRow base e size v n xs)
  (B:Nat) (A:Option Addr) (m c:Nat) (news:List Value) (hm:news.length=m*size) (hr:Lies w B A news) (h1:∀u∈news,u.oneCell' =true)
  (h63:n+m≤maxLen) (hbytes:(n+m)*bytes≤140737488355328) (hbase:base≤w.heap.size):
  ∃v' w',(Builtin.append_ #[t,t] ty #[v,.slice A m c]).run P w= .ok v' w' ∧w'.ownsRow base e size v' (n+m) (xs++news)∧w.grownBy w' v.ownBlock∧
   (v'.ownBlock=v.ownBlock∨v'.ownBlock=some w.heap.size):=by
 have nothing:m=0→A=none→∃v' w',(Builtin.append_ #[t,t] ty #[v,.slice A m c]).run P w= .ok v' w' ∧w'.ownsRow base e size v' (n+m) (xs++news)∧w.grownBy w' v.ownBlock∧
   (v'.ownBlock=v.ownBlock∨v'.ownBlock=some w.heap.size):=by
  rintro rfl rfl;have hn:news= []:=List.eq_nil_of_length_eq_zero (by rw[hm,Nat.zero_mul]);subst hn;refine⟨v,w, ?_,by simpa using hown,⟨rfl,rfl,rfl,Nat.le_refl _,fun _ _ _=>rfl⟩,.inl rfl⟩
  rcases hown.2 with⟨rfl,rfl⟩ | ⟨g,cap,cur,rfl,_,_,hnc,_⟩
  ·simp[Builtin.append_,run_underlying ht,sizeOf,typeInfo,hi,Builtin.lenOf,Builtin.firstCells]
  ·simp[Builtin.append_,run_underlying ht,sizeOf,typeInfo,hi,Builtin.lenOf,Builtin.firstCells,hnc,storeCells]
 rcases Nat.eq_zero_or_pos m with h0 | h0
 ·rcases A with _ | ad
  ·exact nothing h0 rfl
  ·have hn:news= []:=List.eq_nil_of_length_eq_zero (by rw[hm,h0,Nat.zero_mul])
   subst hn;obtain⟨v',w',hrun,h2,h3,_,h5⟩:=run_append_own_at (P:=P) w base t ty e i z size bytes ht hi hz hsize hby hzs hsz v n xs hown ad m c [] hm (fun j u hu=>by simp at hu) h1 h63 hbytes hbase;exact⟨v',w',hrun,h2,h3,h5⟩
 ·obtain⟨b,o,rfl,_,hc⟩:=hr (by rw[hm];exact Nat.mul_pos h0 hsz)
  obtain⟨v',w',hrun,h2,h3,_,h5⟩:=run_append_own_at (P:=P) w base t ty e i z size bytes ht hi hz hsize hby hzs hsz v n xs hown ⟨b,o,none⟩ m c news hm
   (fun j u hu=>by
    rw[←hc j u hu];unfold Addr.add
    split
    ·rename_i h0;subst h0;rfl
    ·rfl) h1 h63 hbytes hbase
  exact⟨v',w',hrun,h2,h3,h5⟩
end
section
variable {P:Program} {w:World}
end

/-- All blocks of cells but s are as they were. -/
def Apart (w w' :World)(s:Nat):Prop:=∃m,(∀t cs,¬Row w m t cs)∧Keeps w w' [s,m]
/-- All blocks of cells but s are as they were (this can be chained). -/
structure RowsBut (s:Nat)(w w' :World):Prop where
 size:w.heap.size≤w'.heap.size
 row:∀{b:Nat} {t:TypeId} {cs:Array Value},b≠s→Row w b t cs→Row w' b t cs
section
variable {w w' w'' :World} {s:Nat}
end
end Go.Proofs.YtoadlafdeoklbaaGreatDoor
