/- Maps whose elements are any values: what is looked up is told by value. Package packet: a kind's shape; the functions that make one. Package packet: the map of the shapes, its entries laid in any order. Package packet: the shapes of all kinds. -/
import Derived.Test.YtahbikfbjenfpaaGreatDoorPa9
import Derived.Maps.Own
import Derived.Test.YtahbikfbjenfpaaGreatDoorPa22
import Derived.Test.YtahbikfbjenfpaaGreatDoorPa32
set_option maxHeartbeats 4000000
set_option maxRecDepth 100000
namespace Go.Proofs.YtahbikfbjenfpaaGreatDoor
open Tryz Go.RowKit Go.Maps
open Go.WideElems (Fit rd rg pl rd_val)

/-- An element as it is. -/
def Ek (v:Value):Option (DataW Value×List MemPlace):=some (.held v, [])

section
variable {P:Program} {k e t:TypeId} {w w' :au} {b n:Nat} {D:DataW Value}
/-- Block b is a map of at most n entries whose elements D tells. -/
abbrev ru (w:au)(P:Program)(k:TypeId)(b n:Nat)(D:DataW Value):Prop:=w.ownsMap P k Ek b n D
theorem ru.keep {S:List Nat}(h:ru w P k b n D)(hk:ae w w' S)(hb:b∉S):ru w' P k b n D:=by
 have hlt:=h.lt;obtain⟨es,clock,hb',F,hs,hD⟩:=h;exact⟨es,clock,(hk.block b hlt hb).trans hb',F,hs,hD⟩

/-- An element that is there. -/
theorem ru.there (h:ru w P k b n D)(K:Keyed P k)(ht:P.underlying t=some (.map k e)){z:Value}(hz:(zeroValue e).run P w= .ok z w){key v:Value}{kl:Lit}(hkey:keyOf P k key=some kl)
  (hat:∀zd,D.atKey kl zd= .held v) (c:Bool):(Instr.lookup t (.map (some b)) key c).run P w= .ok (if c then .tuple #[v,.bool true]else v) w:=by
 obtain⟨es,clock,hb,F,_,rfl⟩:=h
 rcases fit_look c K ht hz hb F hkey with⟨_,_,h2⟩ | ⟨e0,y,_,_,hrun,hR,h2,_⟩
 ·have:=h2 .nil
  rw[hat]at this
  cases this
 ·have h3:=h2 .nil
  rw[hat]at h3;simp only[Ek,kY]at hR;subst hR;injection h3 with h3
  rw[hrun,h3]
/-- One that is not there. -/
theorem ru.missing (h:ru w P k b n D)(K:Keyed P k)(ht:P.underlying t=some (.map k e)){z:Value}(hz:(zeroValue e).run P w= .ok z w){key:Value}{kl:Lit}(hkey:keyOf P k key=some kl)
  (hat:∀zd,D.atKey kl zd=zd) (c:Bool):(Instr.lookup t (.map (some b)) key c).run P w= .ok (if c then .tuple #[z,.bool false]else z) w:=by
 obtain⟨es,clock,hb,F,_,rfl⟩:=h
 rcases fit_look c K ht hz hb F hkey with⟨hrun,_,_⟩ | ⟨e0,y,_,_,hrun,hR,h2,_⟩
 ·exact hrun
 ·have h3:=h2 .nil
  rw[hat]at h3;simp only[Ek,kY]at hR;subst hR
  cases h3

end
end Go.Proofs.YtahbikfbjenfpaaGreatDoor

namespace Go.Proofs.YtahbikfbjenfpaaGreatDoor
open Tryz Go.RowKit Go.Maps

abbrev bG (i:FuncId):Value:= .func (.func i) #[] #[]
abbrev a_ (i:FuncId)(b:Nat):Value:= .func (.func i) #[] #[.pointer (some ⟨b,0,none⟩)]
/-- A shape that `list` has made. -/
def oD (w:au)(fl:Int)(hs my wr rd:FuncId)(v:Value):Prop:=∃b1 b2 b3 b4 b5,v= .agg #[a_ 109 b1,a_ 110 b2,a_ 111 b3,a_ 112 b4,a_ 113 b5]/\
 (Row w b1 30 #[bG my]/\Row w b2 51 #[bG hs]/\Row w b3 3 #[.int .i64 fl])/\Row w b4 53 #[bG wr]/\Row w b5 110 #[bG rd]
/-- What keeps all rows. -/
def n_ (w w' :au):Prop:=∀b t cs,Row w b t cs->Row w' b t cs
theorem oD.rows {w w' :au}{fl:Int}{hs my wr rd:FuncId}{v:Value}(h:oD w fl hs my wr rd v)(hk:n_ w w'):oD w' fl hs my wr rd v:=by
 obtain⟨b1,b2,b3,b4,b5,e,⟨h1,h2,h3⟩,h4,h5⟩:=h;exact⟨b1,b2,b3,b4,b5,e,⟨hk _ _ _ h1,hk _ _ _ h2,hk _ _ _ h3⟩,hk _ _ _ h4,hk _ _ _ h5⟩
theorem n_.of {w w' :au}(h:ae w w' []):n_ w w' :=λ_ _ _ hr=>hr.keeps h
def sO (w:au)(fl:Int)(v:Value):Prop:=oD w fl 139 140 141 142 v
def D8:Value:= .agg #[bG 125,bG 128,.nilFunc,bG 129,bG 131]
def Kz:Value:= .agg #[bG 51,bG 53,.nilFunc,bG 54,bG 57]
def D7:Value:= .agg #[bG 132,bG 133,bG 134,bG 136,bG 137]
def yB:Value:= .agg #[bG 48,bG 49,.nilFunc,.nilFunc,bG 50]
def vu:Value:= .agg #[.nilFunc,.nilFunc,.nilFunc,.nilFunc,.nilFunc]
def P_ (w:au)(v:Value):Prop:=oD w 2 60 61 66 68 v
def RJ (w:au)(v:Value):Prop:=oD w 0 72 73 76 77 v
def OQ (w:au)(v:Value):Prop:=oD w 2 80 81 83 84 v
theorem oP:∃d,Tryz.prog.underlying 56=some d/\d.isRow=true:=⟨_,underlying56,rfl⟩
/-- A kind's shape. -/
def Sh (w:au)(k:Nat)(v:Value):Prop:=
 if k=1 then v=D8 else if k=2 then v=Kz else if k=3 then v=D7 else if k=8 then P_ w v else if k=9 then RJ w v else if k=10 then OQ w v
 else if k=12\/k=13\/k=14 then v=yB else if k=6 then sO w 2 v else sO w 0 v
theorem Sh.rows {w w' :au}{k:Nat}{v:Value}(h:Sh w k v)(hk:n_ w w'):Sh w' k v:=by
 unfold Sh at h ⊢
 split
 ·rename_i e;rw[aE e]at h;exact h
 rename_i e1;rw[aj e1]at h
 split
 ·rename_i e;rw[aE e]at h;exact h
 rename_i e2;rw[aj e2]at h
 split
 ·rename_i e;rw[aE e]at h;exact h
 rename_i e3;rw[aj e3]at h
 split
 ·rename_i e;rw[aE e]at h;exact oD.rows h hk
 rename_i e4;rw[aj e4]at h
 split
 ·rename_i e;rw[aE e]at h;exact oD.rows h hk
 rename_i e5;rw[aj e5]at h
 split
 ·rename_i e;rw[aE e]at h;exact oD.rows h hk
 rename_i e6;rw[aj e6]at h
 split
 ·rename_i e;rw[aE e]at h;exact h
 rename_i e7;rw[aj e7]at h
 split
 ·rename_i e;rw[aE e]at h;exact oD.rows h hk
 ·rename_i e;rw[aj e]at h;exact oD.rows h hk
theorem nT (w:au)(fl:Int)(hs my wr rd:FuncId):
  Calls prog 59 #[.int .i64 fl,bG hs,bG my,bG wr,bG rd] w λe w' =>∃v,e= .returned v/\oD w' fl hs my wr rd v/\ae w w' []:=by
 have PT:∀(fn:Fn) (first cap:Array Value) (w:au),(Instr.makeFunc fn first cap).run prog w= .ok (.func fn first cap) w:=λ_ _ _ _=>rfl
 obtain⟨W1,hW1⟩:∃W1,w.alloc (.cells #[.int .i64 fl] 3)=W1:=⟨_,rfl⟩;obtain⟨W2,kq⟩:∃W2,W1.alloc (.cells #[bG hs] 51)=W2:=⟨_,rfl⟩;obtain⟨W3,Nf⟩:∃W3,W2.alloc (.cells #[bG my] 30)=W3:=⟨_,rfl⟩;obtain⟨W4,KK⟩:∃W4,W3.alloc (.cells #[bG wr] 53)=W4:=⟨_,rfl⟩;obtain⟨W5,Nd⟩:∃W5,W4.alloc (.cells #[bG rd] 110)=W5:=⟨_,rfl⟩;have k1:ae w W1 []:=by rw[<-hW1];exact ae.alloc _ _
 have k2:ae W1 W2 []:=by rw[<-kq];exact ae.alloc _ _
 have k3:ae W2 W3 []:=by rw[<-Nf];exact ae.alloc _ _
 have k4:ae W3 W4 []:=by rw[<-KK];exact ae.alloc _ _
 have k5:ae W4 W5 []:=by rw[<-Nd];exact ae.alloc _ _
 have H1:=zh (show Row W5 w.heap.size 3 #[.int .i64 fl]from((((show Row W1 w.heap.size 3 #[.int .i64 fl]by rw[<-hW1];exact Row.new _ _ _).keeps k2).keeps k3).keeps k4).keeps k5);have H2:=zh (show Row W5 W1.heap.size 51 #[bG hs]from(((show Row W2 W1.heap.size 51 #[bG hs]by rw[<-kq];exact Row.new _ _ _).keeps k3).keeps k4).keeps k5);have H3:=zh (show Row W5 W2.heap.size 30 #[bG my]from((show Row W3 W2.heap.size 30 #[bG my]by rw[<-Nf];exact Row.new _ _ _).keeps k4).keeps k5);have H4:=zh (show Row W5 W3.heap.size 53 #[bG wr]from(show Row W4 W3.heap.size 53 #[bG wr]by rw[<-KK];exact Row.new _ _ _).keeps k5);have H5:=zh (show Row W5 W4.heap.size 110 #[bG rd]by rw[<-Nd];exact Row.new _ _ _);have HK:=zh ((((k1.ah k2).ah k3).ah k4).ah k5);clear k1 k2 k3 k4 k5
 go_enter func59,ntmps59
 go_wp2_with fail
 obtain⟨d,hu,hd⟩:=oP;refine bD (aW (s:=10) (cs:= [a_ 109 W2.heap.size,a_ 110 W1.heap.size,a_ 111 w.heap.size,a_ 112 W3.heap.size,a_ 113 W4.heap.size]) rfl rfl (aD (Row.new W5 _ _)) hu hd (by kernel_rfl)) rfl ⟨_,rfl,⟨W2.heap.size,W1.heap.size,w.heap.size,W3.heap.size,W4.heap.size,rfl, ?_⟩, ?_⟩
 ·exact⟨⟨H3.o.alloc _,H2.o.alloc _,H1.o.alloc _⟩,H4.o.alloc _,H5.o.alloc _⟩
 ·exact HK.o.bX _
theorem jr (w:au)(fl:Int):Calls prog 88 #[.int .i64 fl] w λe w' =>∃v,e= .returned v/\sO w' fl v/\ae w w' []:=by
 have HL:=zh (nT (w.alloc (.cells #[.nilFunc,.nilFunc,.nilFunc,.nilFunc,.nilFunc] 56)) fl 139 140 141 142)
 go_enter func88,ntmps88
 go_wp2_with fail
 refine HL.o.mono ?_;rintro e w1 ⟨v,rfl,hv,hk⟩;obtain⟨b1,b2,b3,b4,b5,rfl,hrows⟩:=hv;have HV:=zh hrows;have hr:=(Row.new w 56 #[.nilFunc,.nilFunc,.nilFunc,.nilFunc,.nilFunc]).keeps hk;have HK:=zh ((ae.alloc w (.cells #[.nilFunc,.nilFunc,.nilFunc,.nilFunc,.nilFunc] 56)).ah hk);have HR:=zh hr;clear hk hr hrows
 go_wp2_with (refine wpList_store_row rfl (.tmp 2) (.tmp 4) 56 rfl w.heap.size #[a_ 109 b1,a_ 110 b2,a_ 111 b3,a_ 112 b4,a_ 113 b5] #[.nilFunc,.nilFunc,.nilFunc,.nilFunc,.nilFunc] HR.o (by kernel_rfl) rfl (by simp[Value.oneCell']) rfl rfl ?_;intro w7 r7 k7;refine Hid.o ?_)
 refine zh ?_;have ku:=zh r7;have iN:=zh (HK.o.trans k7 (λx hx hlt=>by simp at hx;omega));have Vx:=zh (show(Row w7 b1 30 #[bG 140]/\Row w7 b2 51 #[bG 139]/\Row w7 b3 3 #[.int .i64 fl])/\Row w7 b4 53 #[bG 141]/\Row w7 b5 110 #[bG 142]by
  obtain⟨⟨h1,h2,h3⟩,h4,h5⟩:=HV.o;exact⟨⟨h1.keep k7 (by simpa using Row.fI h1 HR.o (by decide)),h2.keep k7 (by simpa using Row.fI h2 HR.o (by decide)),h3.keep k7 (by simpa using Row.fI h3 HR.o (by decide))⟩,h4.keep k7 (by simpa using Row.fI h4 HR.o (by decide)),h5.keep k7 (by simpa using Row.fI h5 HR.o (by decide))⟩)
 clear r7 k7
 go_wp2_with fail
 obtain⟨d,hu,hd⟩:=oP;exact bD (aW (s:=2) (cs:= [a_ 109 b1,a_ 110 b2,a_ 111 b3,a_ 112 b4,a_ 113 b5]) rfl rfl (aD ku.o) hu hd (by kernel_rfl)) rfl ⟨_,rfl,⟨b1,b2,b3,b4,b5,rfl,Vx.o⟩,iN.o⟩
theorem wU (w:au):Calls prog 86 #[] w λe w' =>e= .returned D8/\ae w w' []:=by
 go_enter func86,ntmps86
 go_wp2_with fail
 obtain⟨d,hu,hd⟩:=oP;exact bD (aW (s:=0) (cs:= [bG 125,bG 128,.nilFunc,bG 129,bG 131]) rfl rfl (aD (Row.new w _ _)) hu hd (by kernel_rfl)) rfl ⟨rfl,ae.alloc _ _⟩
theorem wS (w:au):Calls prog 87 #[] w λe w' =>e= .returned D7/\ae w w' []:=by
 go_enter func87,ntmps87
 go_wp2_with fail
 obtain⟨d,hu,hd⟩:=oP;exact bD (aW (s:=0) (cs:= [bG 132,bG 133,bG 134,bG 136,bG 137]) rfl rfl (aD (Row.new w _ _)) hu hd (by kernel_rfl)) rfl ⟨rfl,ae.alloc _ _⟩

theorem uW:Tryz.prog.underlying 22=some (.int .i64):=by kernel_rfl
theorem Cj:Tryz.prog.underlying 57=some (.map 22 56):=by kernel_rfl
theorem Sv (w:au):(zeroValue 56).run prog w= .ok vu w:=by kernel_rfl
theorem GH (k:Int)(h1: -9223372036854775808<=k)(h2:k<=9223372036854775807):(Lit.int .i64 k).wf=true:=by
 have m1:IntKind.i64.min= -9223372036854775808:=by decide
 have m2:IntKind.i64.max=9223372036854775807:=by decide
 show(decide (IntKind.i64.min<=k) && decide (k<=IntKind.i64.max))=true;rw[m1,m2];simp[h1,h2]
abbrev pE (j:Nat):Lit:= .int .i64 (j:Int)
theorem mZ (j:Nat)(n:Int):(pE j).sameKey (.int .i64 n)=decide ((j:Int)=n):=by
 simp[Lit.sameKey]
/-- Entries: each kind once, with its shape. -/
def n8 (w:au)(ds:List (Lit×DataW Value)):Prop:=(ds.map (·.1)).Nodup/\∀x∈ds,∃k:Nat,(1<=k/\k<=14)/\x.1=pE k/\∃v,x.2= .held v/\Sh w k v
/-- Block b is a map of shapes, in which are at least these kinds. -/
def cW (w:au)(b:Nat)(S:List Nat):Prop:=∃ds:List (Lit×DataW Value),ru w prog 22 b ds.length (.map ds)/\n8 w ds/\∀j∈S,∃x∈ds,x.1=pE j
theorem n8.rows {w w' :au}{ds:List (Lit×DataW Value)}(h:n8 w ds)(hk:n_ w w'):n8 w' ds:=⟨h.1,λx hx=>by
 obtain⟨k,h1,h2,v,h3,h4⟩:=h.2 x hx;exact⟨k,h1,h2,v,h3,h4.rows hk⟩⟩
theorem ye {w:au}{b n n' :Nat}{ds ds' :List (Lit×DataW Value)}(h:ru w prog 22 b n (.map ds))(h' :ru w prog 22 b n' (.map ds')):ds=ds' :=by
 obtain⟨es,c,h1,_,_,h2⟩:=h;obtain⟨es',c',h1',_,_,h2'⟩:=h';rw[h1]at h1';injection h1' with h1'
 injection h1' with h1' h3
 subst h1';injection h2 with h2
 injection h2' with h2'
 rw[h2,h2']
theorem cW.join {w:au}{b:Nat}{S T:List Nat}(h:cW w b S)(g:cW w b T):cW w b (S++T):=by
 obtain⟨ds,h1,h2,h3⟩:=h;obtain⟨es,g1,g2,g3⟩:=g;obtain rfl:=ye h1 g1;exact⟨ds,h1,h2,λj hj=>(List.mem_append.1 hj).elim (h3 j) (g3 j)⟩
theorem Dq {w:au}{b n:Nat}{ds:List (Lit×DataW Value)}(h:ru w prog 22 b n (.map ds)):ru w prog 22 b ds.length (.map ds):=by
 obtain⟨es,c,h1,F,_,h2⟩:=h;refine⟨es,c,h1,F, ?_,h2⟩;injection h2 with h2
 rw[h2,DataW.length_sorted,xF];simp
theorem Bd {α:Type} [BEq α] [LawfulBEq α]:∀{l m:List α},l.Nodup->(∀x∈l,x∈m)->l.length<=m.length
 | [],_,_,_=>Nat.zero_le _
 | a::l,m,h,hs=>by
  have ha:=hs a (by simp);have h1:=List.nodup_cons.1 h;have h2:=Bd (l:=l) (m:=m.erase a) h1.2 (λx hx=>(List.mem_erase_of_ne (show x≠a from λe=>h1.1 (by rw[<-e];exact hx))).2 (hs x (by simp[hx])));rw[List.length_erase_of_mem ha]at h2;have:=List.length_pos_of_mem ha;simp only[du];omega
theorem n8.le {w:au}{ds:List (Lit×DataW Value)}(h:n8 w ds):ds.length<=14:=by
 obtain⟨h1,h2⟩:=h;have h3:∃ks:List Nat,ks.map pE=ds.map (·.1)/\∀k∈ks,1<=k/\k<=14:=by
  clear h1
  induction ds with
  | nil=>exact⟨[],rfl,by simp⟩
  | cons x ds ih=>
   obtain⟨ks,g1,g2⟩:=ih (λy hy=>h2 y (by simp[hy]));obtain⟨k,e1,e2,_⟩:=h2 x (by simp);exact⟨k::ks,by simp[g1,e2],λj hj=>by
    rcases List.mem_cons.1 hj with rfl | hj
    ·exact e1
    ·exact g2 j hj⟩
 obtain⟨ks,g1,g2⟩:=h3;have hn:ks.Nodup:=by
  rw[<-g1]at h1;exact(List.pairwise_map.1 h1).imp (λh e=>h (by rw[e]))
 have hl:ks.length=ds.length:=by
  have:=ek List.length g1
  simpa using this
 have:=Bd (m:=List.range' 1 14) hn (λk hk=>by
  have:=g2 k hk;rw[List.mem_range'_1];omega)
 simp only[List.length_range']at this;omega
theorem insert_perm {x:Lit×DataW Value}:∀l:List (Lit×DataW Value),(DataW.insert x l).Perm (x::l)
 | []=>List.Perm.refl _
 | y::l=>by
  unfold DataW.insert
  split
  ·exact List.Perm.refl _
  ·exact((insert_perm l).cons y).trans (List.Perm.swap x y l)
/-- An entry more. -/
theorem n8.put {w:au}{ds:List (Lit×DataW Value)}(h:n8 w ds){j:Nat}(hj:1<=j/\j<=14){v:Value}(hv:Sh w j v):
  n8 w (DataW.insert (pE j,.held v) (ds.filter λp=> !p.1.sameKey (pE j)))/\(∀i,(i=j\/∃x∈ds,x.1=pE i)->∃x∈DataW.insert (pE j,.held v) (ds.filter λp=> !p.1.sameKey (pE j)),x.1=pE i):=by
 have hp:=insert_perm (x:=(pE j,.held v)) (ds.filter λp=> !p.1.sameKey (pE j));refine⟨⟨?_,λx hx=> ?_⟩,λi hi=> ?_⟩
 ·rw[(hp.map (·.1)).nodup_iff,eu,List.nodup_cons]
  refine⟨λhm=> ?_, ?_⟩
  ·obtain⟨y,hy,e⟩:=List.mem_map.1 hm
   have:=(List.mem_filter.1 hy).2;rw[e,mZ]at this;simp at this
  ·exact(List.Sublist.map _ List.filter_sublist).nodup h.1
 ·rcases List.mem_cons.1 (hp.mem_iff.1 hx)with rfl | hx
  ·exact⟨j,hj,rfl,v,rfl,hv⟩
  ·exact h.2 x (List.mem_filter.1 hx).1
 ·by_cases e:i=j
  ·subst e
   exact⟨_,hp.mem_iff.2 (List.mem_cons_self ..),rfl⟩
  ·rcases hi with rfl | ⟨x,hx,ex⟩
   ·exact absurd rfl e
   ·refine⟨x,hp.mem_iff.2 (List.mem_cons_of_mem _ (List.mem_filter.2 ⟨hx, ?_⟩)),ex⟩
    rw[ex,mZ];simp;omega
/-- What each operation keeps. -/
structure mF (n0:Nat)(w w' :au):Prop where
 os:w'.os=w.os
 tape:w'.tape=w.tape
 output:w'.output=w.output
 size:w.heap.size<=w'.heap.size
 block:∀k,k < n0->k < w.heap.size->w'.heap[k]? =w.heap[k]?
 rows:n_ w w'
 maps:∀b S,n0<=b->cW w b S->cW w' b S
theorem mF.of {n0:Nat}{w w' :au}(h:ae w w' []):mF n0 w w' :=⟨h.os,h.tape,h.output,h.size,λk _ hk=>h.block k hk (by simp),.of h,λb S _ hm=>by
 obtain⟨ds,h1,h2,h3⟩:=hm;exact⟨ds,h1.keep h (by simp),h2.rows (.of h),h3⟩⟩
theorem mF.refl (n0:Nat)(w:au):mF n0 w w:= .of (ae.refl _ _)
theorem mF.trans {n0:Nat}{w w' w'' :au}(h:mF n0 w w')(k:mF n0 w' w''):mF n0 w w'' :=
 ⟨k.os.trans h.os,k.tape.trans h.tape,k.output.trans h.output,cH h.size k.size,λi h1 h2=>(k.block i h1 (kB h2 h.size)).trans (h.block i h1 h2),λb t cs hr=>k.rows b t cs (h.rows b t cs hr),λb S hb hm=>k.maps b S hb (h.maps b S hb hm)⟩
theorem mF.keeps {w w' :au}(h:mF w.heap.size w w'):ae w w' []:=⟨h.os,h.tape,h.output,h.size,λk hk _=>h.block k hk hk⟩
section
variable {n0:Nat} {w0:au} {ops:Array Oper} {a0 a:Act} {Q:List fQ->Prop} {o:Oper} {rest:List Oper} {env:List fQ} {W:au}
theorem ik {f:FuncId}{args:Array Value}{φ' :Value->au->Prop}(hw:Region.wanted o (yielded ops a.tmps)=true)(he:(execOp a.eval o).run prog W= .ok (.enter f args) W)(h:Calls prog f args W λe w' =>∃v,e= .returned v/\ae W w' []/\φ' v w'):fH prog (mF n0) ops a o φ' W:=by
 refine⟨?_⟩;rw[aE hw,he];exact⟨mF.refl _ _,h.mono λe w' ⟨v,h1,h2,h3⟩=>⟨v,h1,.of h2,h3⟩⟩
theorem Bc {t:TypeId}{φ' :Value->au->Prop}(hw:Region.wanted o (yielded ops a.tmps)=true)(ho:o.op= .makeMap t none)(h:φ' (.map (some W.heap.size)) (W.alloc (.map #[] 0))):fH prog (mF n0) ops a o φ' W:=by
 refine⟨?_⟩;rw[aE hw];unfold execOp;simp only[ho,fo,Option.map_none,run_makeMap,fk,gq];exact⟨.of (ae.alloc _ _),h⟩
theorem dN {m k x:Operand}{b j:Nat}{v:Value}{φ' :Value->au->Prop}(hw:Region.wanted o (yielded ops a.tmps)=true)(ho:o.op= .insert 57 m k x)(hm:a.eval m= .map (some b))(hk:a.eval k= .int .i64 (j:Int))(hx:a.eval x=v)(hj:1<=j/\j<=14)(hb:n0<=b)(hM:cW W b [])(hv:Sh W j v)
  (h:∀W',cW W' b [j]->φ' undef W'):fH prog (mF n0) ops a o φ' W:=by
 refine⟨?_⟩;rw[aE hw];obtain⟨ds,h1,h2,_⟩:=hM;have hle:=h2.le;obtain⟨w',hrun,r1,r2⟩:=h1.update (R:=Ek) (int_keyed uW) Cj (zZ hle (by unfold maxLen;omega)) (key:= .int .i64 (j:Int)) (kl:=pE j) (keyOf_int_mk uW (GH j (by omega) (by omega))) (val:=v) (d:= .held v) (ps:= []) rfl;have hkk:=ae.fY r2;simp only[Option.toList]at hkk;have hb1:=h1.lt;have hrows:n_ W w' :=λc t cs hr=>hr.keep hkk (by
  intro hc;rw[rD]at hc;subst hc;obtain⟨es,cl,hh,_⟩:=h1;unfold Row at hr;rw[hh]at hr;injection hr with hr
  cases hr)
 have hput:=h2.put hj hv;have Sw :=Dq (show ru w' prog 22 b _ (.map (DataW.insert (pE j,.held v) (ds.filter λp=> !p.1.sameKey (pE j))))from r1);have hrel:mF n0 W w' :=⟨hkk.os,hkk.tape,hkk.output,hkk.size,λc hc hcl=>hkk.block c hcl (by rw[rD];omega),hrows,λb' S hb' hm' =>by
  by_cases e:b' =b
  ·subst e
   obtain⟨es,g1,g2,g3⟩:=hm';obtain rfl:=ye h1 g1;exact⟨_,Sw,hput.1.rows hrows,λi hi=>hput.2 i (.inr (g3 i hi))⟩
  ·obtain⟨es,g1,g2,g3⟩:=hm'
   exact⟨es,g1.keep hkk (by simpa using e),g2.rows hrows,g3⟩⟩
 unfold execOp;simp only[ho,hm,hk,hx,fo,hrun,fk,gq];exact⟨hrel,h w' ⟨_,Sw,hput.1.rows hrows,λi hi=>hput.2 i (.inl (by simpa using hi))⟩⟩
theorem ij {t:TypeId}{x:Operand}{g:Nat}{cs:List Value}{d:TypeDesc}(hw:Region.wanted o (yielded ops a.tmps)=true)(ho:o.op= .load t x)(hx:a.eval x= .pointer (some ⟨g,0,none⟩))(hc:W.rangeAt g 0 cs)(hu:Tryz.prog.underlying t=some d)(hd:d.isRow=true)(hi:(Tryz.prog.info? t).map (·.size)=some cs.length):fH prog (mF n0) ops a o (λu _=>u= .agg cs.toArray) W:=
 kQ hw ho hx hc hu hd hi (mF.refl _ _) rfl
end
/-- What is looked up. -/
theorem cW.look {W:au}{b:Nat}(h:cW W b [1,2,3,4,5,6,7,8,9,10,11,12,13,14])(k:Int)(h1: -9223372036854775808<=k)(h2:k<=9223372036854775807)(c:Bool):
  (1<=k/\k<=14/\∃v,Sh W k.toNat v/\(Instr.lookup 57 (.map (some b)) (.int .i64 k) c).run prog W= .ok (if c then .tuple #[v,.bool true]else v) W)\/
  (¬(1<=k/\k<=14)/\(Instr.lookup 57 (.map (some b)) (.int .i64 k) c).run prog W= .ok (if c then .tuple #[vu,.bool false]else vu) W):=by
 obtain⟨ds,hm,⟨hn,hg⟩,hS⟩:=h;have hkey:keyOf prog 22 (.int .i64 k)=some (.int .i64 k):=keyOf_int_mk uW (GH k h1 h2)
 by_cases hk:1<=k/\k<=14
 ·left
  obtain⟨j,rfl⟩:∃j:Nat,k=(j:Int):=⟨k.toNat,by omega⟩;obtain⟨x,hx,ex⟩:=hS j (by
   simp only[tU,tT,or_false];omega)
  cases hf:ds.find? (λp=>p.1.sameKey (pE j))with
  | none=>
   have:=List.find?_eq_none.1 hf x hx;rw[ex,mZ]at this;simp at this
  | some y=>
   have hy:=List.mem_of_find?_eq_some hf;have hs:=List.find?_some hf;obtain⟨i,_,e2,v,e3,e4⟩:=hg y hy;rw[e2,mZ,fA]at hs;have hij:i=j:=by omega
   subst hij;refine⟨hk.1,hk.2,v,by simpa using e4,ru.there hm (int_keyed uW) Cj (Sv W) hkey (λzd=> ?_) c⟩;simp only[DataW.atKey];rw[show(Lit.int IntKind.i64 ((i:Nat):Int))=pE i from rfl,hf];exact e3
 ·right
  refine⟨hk,ru.missing hm (int_keyed uW) Cj (Sv W) hkey (λzd=> ?_) c⟩;have hf:ds.find? (λp=>p.1.sameKey (.int .i64 k))=none:=List.find?_eq_none.2 λx hx=>by
   obtain⟨i,e1,e2,_⟩:=hg x hx;rw[e2,mZ];simp;omega
  simp only[DataW.atKey,hf]

theorem EK (W:au):cW (W.alloc (.map #[] 0)) W.heap.size []:=
 ⟨[],World.ownsMap_made W _ _ _,⟨List.nodup_nil,by simp⟩,by simp⟩
theorem vr {w:au}{k:Nat}{fl:Int}{v:Value}(h:sO w fl v)(hk:(k=6/\fl=2)\/((k=4\/k=5\/k=7\/k=11)/\fl=0)):Sh w k v:=by
 unfold Sh
 rcases hk with⟨rfl,rfl⟩ | ⟨hk,rfl⟩
 ·rw[aj (by decide),aj (by decide),aj (by decide),aj (by decide),aj (by decide),aj (by decide),aj (by decide),aE rfl]
  exact h
 ·rw[aj (by omega),aj (by omega),aj (by omega),aj (by omega),aj (by omega),aj (by omega),aj (by omega),aj (by omega)]
  exact h
/-- All shapes. -/
abbrev sP (w:au)(b:Nat):Prop:=cW w b [1,2,3,4,5,6,7,8,9,10,11,12,13,14]
theorem kK (w:au):Calls prog 21 #[] w λe w' =>∃b,e= .returned (.map (some b))/\sP w' b/\ae w w' []:=by
 obtain⟨d,hu,hd⟩:=oP;have HU:=zh (And.intro hu hd);clear hu hd;obtain⟨W1,hW1⟩:∃W1,w.alloc (.cells #[bG 48,bG 49,.nilFunc,.nilFunc,bG 50] 56)=W1:=⟨_,rfl⟩;obtain⟨W2,kq⟩:∃W2,W1.alloc (.cells #[bG 51,bG 53,.nilFunc,bG 54,bG 57] 56)=W2:=⟨_,rfl⟩;have k1:ae w W1 []:=by rw[<-hW1];exact ae.alloc _ _
 have k2:ae W1 W2 []:=by rw[<-kq];exact ae.alloc _ _
 have RN:=zh (show Row W2 w.heap.size 56 #[bG 48,bG 49,.nilFunc,.nilFunc,bG 50]from(show Row W1 w.heap.size 56 #[bG 48,bG 49,.nilFunc,.nilFunc,bG 50]by rw[<-hW1];exact Row.new _ _ _).keeps k2);have RA:=zh (show Row W2 W1.heap.size 56 #[bG 51,bG 53,.nilFunc,bG 54,bG 57]by rw[<-kq];exact Row.new _ _ _);have HK:=zh (k1.ah k2);clear k1 k2
 go_enter func21,ntmps21
 go_wp2_with fail
 clear hW1 kq;refine(nT _ 2 60 61 66 68).mono ?_;rintro e va ⟨v,rfl,hv,hk⟩;obtain⟨a1,a2,a3,a4,a5,rfl,hrows⟩:=hv;obtain⟨Va,Rm⟩:∃V,va.alloc (.cells #[a_ 109 a1,a_ 110 a2,a_ 111 a3,a_ 112 a4,a_ 113 a5] 56)=V:=⟨_,rfl⟩;have kv:ae va Va []:=by rw[<-Rm];exact ae.alloc _ _
 have Sa:=zh (show P_ Va (.agg #[a_ 109 a1,a_ 110 a2,a_ 111 a3,a_ 112 a4,a_ 113 a5])from oD.rows ⟨a1,a2,a3,a4,a5,rfl,hrows⟩ (.of kv));have Ra:=zh (show Row Va va.heap.size 56 #[a_ 109 a1,a_ 110 a2,a_ 111 a3,a_ 112 a4,a_ 113 a5]by rw[<-Rm];exact Row.new _ _ _);have kx:=hk.ah kv;replace HK:=zh (HK.o.ah kx);replace RN:=zh (RN.o.keeps kx);replace RA:=zh (RA.o.keeps kx);clear hk hrows kv kx
 go_wp2_with fail
 clear Rm;refine(nT _ 0 72 73 76 77).mono ?_;rintro e vb ⟨v,rfl,hv,hk⟩;obtain⟨b1,b2,b3,b4,b5,rfl,hrows⟩:=hv;obtain⟨Vb,Rl⟩:∃V,vb.alloc (.cells #[a_ 109 b1,a_ 110 b2,a_ 111 b3,a_ 112 b4,a_ 113 b5] 56)=V:=⟨_,rfl⟩;have kv:ae vb Vb []:=by rw[<-Rl];exact ae.alloc _ _
 have Sb:=zh (show RJ Vb (.agg #[a_ 109 b1,a_ 110 b2,a_ 111 b3,a_ 112 b4,a_ 113 b5])from oD.rows ⟨b1,b2,b3,b4,b5,rfl,hrows⟩ (.of kv));have Rb:=zh (show Row Vb vb.heap.size 56 #[a_ 109 b1,a_ 110 b2,a_ 111 b3,a_ 112 b4,a_ 113 b5]by rw[<-Rl];exact Row.new _ _ _);have kx:=hk.ah kv;replace HK:=zh (HK.o.ah kx);replace RN:=zh (RN.o.keeps kx);replace RA:=zh (RA.o.keeps kx);replace Sa:=zh (show P_ Vb (.agg #[a_ 109 a1,a_ 110 a2,a_ 111 a3,a_ 112 a4,a_ 113 a5])from oD.rows Sa.o (.of kx));replace Ra:=zh (Ra.o.keeps kx);clear hk hrows kv kx
 go_wp2_with fail
 clear Rl;refine(nT _ 2 80 81 83 84).mono ?_;rintro e vc ⟨v,rfl,hv,hk⟩;obtain⟨c1,c2,c3,c4,c5,rfl,hrows⟩:=hv;obtain⟨Vc,Rk⟩:∃V,vc.alloc (.cells #[a_ 109 c1,a_ 110 c2,a_ 111 c3,a_ 112 c4,a_ 113 c5] 56)=V:=⟨_,rfl⟩;have kv:ae vc Vc []:=by rw[<-Rk];exact ae.alloc _ _
 have Sc:=zh (show OQ Vc (.agg #[a_ 109 c1,a_ 110 c2,a_ 111 c3,a_ 112 c4,a_ 113 c5])from oD.rows ⟨c1,c2,c3,c4,c5,rfl,hrows⟩ (.of kv));have Rc:=zh (show Row Vc vc.heap.size 56 #[a_ 109 c1,a_ 110 c2,a_ 111 c3,a_ 112 c4,a_ 113 c5]by rw[<-Rk];exact Row.new _ _ _);have kx:=hk.ah kv;replace HK:=zh (HK.o.ah kx);replace RN:=zh (RN.o.keeps kx);replace RA:=zh (RA.o.keeps kx);replace Sa:=zh (show P_ Vc (.agg #[a_ 109 a1,a_ 110 a2,a_ 111 a3,a_ 112 a4,a_ 113 a5])from oD.rows Sa.o (.of kx));replace Ra:=zh (Ra.o.keeps kx);replace Sb:=zh (show RJ Vc (.agg #[a_ 109 b1,a_ 110 b2,a_ 111 b3,a_ 112 b4,a_ 113 b5])from oD.rows Sb.o (.of kx));replace Rb:=zh (Rb.o.keeps kx);clear hk hrows kv kx
 go_upto_region 6 with fail
 clear Rk;obtain⟨hu,hd⟩:=HU.o;refine cE (mF Vc.heap.size) _ 29 (by kernel_rfl) rfl (by kernel_rfl) (mF.refl _) (λ_ _ _ h k=>h.trans k) (.of (ae.drew _)) ?_;simp only[dc,dg,dF,dK];refine bH (λv W' =>∃b,v= .map (some b)/\Vc.heap.size<=b/\cW W' b []) (λW vals hW ag φ' hφ=>Bc (by kernel_rfl) rfl (hφ.o _ _ ⟨_,rfl,hW.size,EK W⟩)) ?_;refine ak D8 (λW vals hW ag=>ik (f:=86) (args:= #[]) (by kernel_rfl) (by kernel_rfl) ((wU W).mono (by rintro e w2 ⟨rfl,hk⟩;exact⟨_,rfl,hk,rfl⟩))) ?_;refine eD [11] (λrd _ W' =>∃b,rd= [.map (some b)]/\Vc.heap.size<=b/\cW W' b [1]) (by kernel_rfl) (λW vals hW ag φ' hφ=> ?_) ?_
 ·simp only[af,knows]at ag
  try simp only[ai]at ag
  obtain⟨W1,q0,q1,b,hv,hb,hm⟩:=ag (by decide);exact dN (m:= .tmp 11) (k:= .const (.int .i64 1)) (x:= .tmp 12) (j:=1) (v:=D8) (by kernel_rfl) rfl ((show _=vals 11 by kernel_rfl).trans hv) (by kernel_rfl) (by kernel_rfl) (by decide) hb (q1.maps b [] hb hm) (rfl) (λW' hM=>hφ.o _ _ ⟨b,by rw[eu,fU,hv],hb,hM⟩)
 refine ak (.agg #[bG 51,bG 53,.nilFunc,bG 54,bG 57]) (λW vals hW _=>ij (x:= .tmp 2) (g:=W1.heap.size) (cs:= [bG 51,bG 53,.nilFunc,bG 54,bG 57]) (by kernel_rfl) rfl (by kernel_rfl) (aD (hW.rows _ _ _ RA.o)) hu hd (by kernel_rfl)) ?_;refine eD [11] (λrd _ W' =>∃b,rd= [.map (some b)]/\Vc.heap.size<=b/\cW W' b [2]) (by kernel_rfl) (λW vals hW ag φ' hφ=> ?_) ?_
 ·simp only[af,knows]at ag
  try simp only[ai]at ag
  obtain⟨W1,q0,q1,b,hv,hb,hm⟩:=ag (by decide);exact dN (m:= .tmp 11) (k:= .const (.int .i64 2)) (x:= .tmp 13) (j:=2) (v:=Kz) (by kernel_rfl) rfl ((show _=vals 11 by kernel_rfl).trans hv) (by kernel_rfl) (by kernel_rfl) (by decide) hb (q1.maps b [] hb hm) (rfl) (λW' hM=>hφ.o _ _ ⟨b,by rw[eu,fU,hv],hb,hM⟩)
 refine ak D7 (λW vals hW ag=>ik (f:=87) (args:= #[]) (by kernel_rfl) (by kernel_rfl) ((wS W).mono (by rintro e w2 ⟨rfl,hk⟩;exact⟨_,rfl,hk,rfl⟩))) ?_;refine eD [11] (λrd _ W' =>∃b,rd= [.map (some b)]/\Vc.heap.size<=b/\cW W' b [3]) (by kernel_rfl) (λW vals hW ag φ' hφ=> ?_) ?_
 ·simp only[af,knows]at ag
  try simp only[ai]at ag
  obtain⟨W1,q0,q1,b,hv,hb,hm⟩:=ag (by decide);exact dN (m:= .tmp 11) (k:= .const (.int .i64 3)) (x:= .tmp 14) (j:=3) (v:=D7) (by kernel_rfl) rfl ((show _=vals 11 by kernel_rfl).trans hv) (by kernel_rfl) (by kernel_rfl) (by decide) hb (q1.maps b [] hb hm) (rfl) (λW' hM=>hφ.o _ _ ⟨b,by rw[eu,fU,hv],hb,hM⟩)
 refine bH (λv W' =>sO W' 0 v) (λW vals hW ag φ' hφ=>ik (f:=88) (args:= #[.int .i64 0]) (by kernel_rfl) (by kernel_rfl) ((jr W 0).mono (by rintro e w2 ⟨v,rfl,hv,hk⟩;exact⟨v,rfl,hk,hφ.o _ _ hv⟩))) ?_;refine eD [11] (λrd _ W' =>∃b,rd= [.map (some b)]/\Vc.heap.size<=b/\cW W' b [4]) (by kernel_rfl) (λW vals hW ag φ' hφ=> ?_) ?_
 ·simp only[af,knows]at ag
  try simp only[ai]at ag
  obtain⟨W1,q0,q1,b,hv,hb,hm⟩:=ag.2 (by decide);exact dN (m:= .tmp 11) (k:= .const (.int .i64 4)) (x:= .tmp 15) (j:=4) (v:=vals 15) (by kernel_rfl) rfl ((show _=vals 11 by kernel_rfl).trans hv) (by kernel_rfl) (by kernel_rfl) (by decide) hb (q1.maps b [] hb hm) ((show Sh W 4 (vals 15)from by obtain⟨W2,p0,p1,hs⟩:=ag.1 (by decide);exact(vr hs (.inr ⟨by decide,rfl⟩)).rows p1.rows)) (λW' hM=>hφ.o _ _ ⟨b,by rw[eu,fU,hv],hb,hM⟩)
 refine bH (λv W' =>sO W' 0 v) (λW vals hW ag φ' hφ=>ik (f:=88) (args:= #[.int .i64 0]) (by kernel_rfl) (by kernel_rfl) ((jr W 0).mono (by rintro e w2 ⟨v,rfl,hv,hk⟩;exact⟨v,rfl,hk,hφ.o _ _ hv⟩))) ?_;refine eD [11] (λrd _ W' =>∃b,rd= [.map (some b)]/\Vc.heap.size<=b/\cW W' b [5]) (by kernel_rfl) (λW vals hW ag φ' hφ=> ?_) ?_
 ·simp only[af,knows]at ag
  try simp only[ai]at ag
  obtain⟨W1,q0,q1,b,hv,hb,hm⟩:=ag.2.2 (by decide);exact dN (m:= .tmp 11) (k:= .const (.int .i64 5)) (x:= .tmp 16) (j:=5) (v:=vals 16) (by kernel_rfl) rfl ((show _=vals 11 by kernel_rfl).trans hv) (by kernel_rfl) (by kernel_rfl) (by decide) hb (q1.maps b [] hb hm) ((show Sh W 5 (vals 16)from by obtain⟨W2,p0,p1,hs⟩:=ag.1 (by decide);exact(vr hs (.inr ⟨by decide,rfl⟩)).rows p1.rows)) (λW' hM=>hφ.o _ _ ⟨b,by rw[eu,fU,hv],hb,hM⟩)
 refine bH (λv W' =>sO W' 2 v) (λW vals hW ag φ' hφ=>ik (f:=88) (args:= #[.int .i64 2]) (by kernel_rfl) (by kernel_rfl) ((jr W 2).mono (by rintro e w2 ⟨v,rfl,hv,hk⟩;exact⟨v,rfl,hk,hφ.o _ _ hv⟩))) ?_;refine eD [11] (λrd _ W' =>∃b,rd= [.map (some b)]/\Vc.heap.size<=b/\cW W' b [6]) (by kernel_rfl) (λW vals hW ag φ' hφ=> ?_) ?_
 ·simp only[af,knows]at ag
  try simp only[ai]at ag
  obtain⟨W1,q0,q1,b,hv,hb,hm⟩:=ag.2.2.2 (by decide);exact dN (m:= .tmp 11) (k:= .const (.int .i64 6)) (x:= .tmp 17) (j:=6) (v:=vals 17) (by kernel_rfl) rfl ((show _=vals 11 by kernel_rfl).trans hv) (by kernel_rfl) (by kernel_rfl) (by decide) hb (q1.maps b [] hb hm) ((show Sh W 6 (vals 17)from by obtain⟨W2,p0,p1,hs⟩:=ag.1 (by decide);exact(vr hs (.inl ⟨rfl,rfl⟩)).rows p1.rows)) (λW' hM=>hφ.o _ _ ⟨b,by rw[eu,fU,hv],hb,hM⟩)
 refine bH (λv W' =>sO W' 0 v) (λW vals hW ag φ' hφ=>ik (f:=88) (args:= #[.int .i64 0]) (by kernel_rfl) (by kernel_rfl) ((jr W 0).mono (by rintro e w2 ⟨v,rfl,hv,hk⟩;exact⟨v,rfl,hk,hφ.o _ _ hv⟩))) ?_;refine eD [11] (λrd _ W' =>∃b,rd= [.map (some b)]/\Vc.heap.size<=b/\cW W' b [7]) (by kernel_rfl) (λW vals hW ag φ' hφ=> ?_) ?_
 ·simp only[af,knows]at ag
  try simp only[ai]at ag
  obtain⟨W1,q0,q1,b,hv,hb,hm⟩:=ag.2.2.2.2 (by decide);exact dN (m:= .tmp 11) (k:= .const (.int .i64 7)) (x:= .tmp 18) (j:=7) (v:=vals 18) (by kernel_rfl) rfl ((show _=vals 11 by kernel_rfl).trans hv) (by kernel_rfl) (by kernel_rfl) (by decide) hb (q1.maps b [] hb hm) ((show Sh W 7 (vals 18)from by obtain⟨W2,p0,p1,hs⟩:=ag.1 (by decide);exact(vr hs (.inr ⟨by decide,rfl⟩)).rows p1.rows)) (λW' hM=>hφ.o _ _ ⟨b,by rw[eu,fU,hv],hb,hM⟩)
 refine ak (.agg #[a_ 109 a1,a_ 110 a2,a_ 111 a3,a_ 112 a4,a_ 113 a5]) (λW vals hW _=>ij (x:= .tmp 3) (g:=va.heap.size) (cs:= [a_ 109 a1,a_ 110 a2,a_ 111 a3,a_ 112 a4,a_ 113 a5]) (by kernel_rfl) rfl (by kernel_rfl) (aD (hW.rows _ _ _ Ra.o)) hu hd (by kernel_rfl)) ?_;refine eD [11] (λrd _ W' =>∃b,rd= [.map (some b)]/\Vc.heap.size<=b/\cW W' b [8]) (by kernel_rfl) (λW vals hW ag φ' hφ=> ?_) ?_
 ·simp only[af,knows]at ag
  try simp only[ai]at ag
  obtain⟨W1,q0,q1,b,hv,hb,hm⟩:=ag.2.2.2.2 (by decide);exact dN (m:= .tmp 11) (k:= .const (.int .i64 8)) (x:= .tmp 19) (j:=8) (v:= .agg #[a_ 109 a1,a_ 110 a2,a_ 111 a3,a_ 112 a4,a_ 113 a5]) (by kernel_rfl) rfl ((show _=vals 11 by kernel_rfl).trans hv) (by kernel_rfl) (by kernel_rfl) (by decide) hb (q1.maps b [] hb hm) ((show Sh W 8 (.agg #[a_ 109 a1,a_ 110 a2,a_ 111 a3,a_ 112 a4,a_ 113 a5])from oD.rows Sa.o hW.rows)) (λW' hM=>hφ.o _ _ ⟨b,by rw[eu,fU,hv],hb,hM⟩)
 refine ak (.agg #[a_ 109 b1,a_ 110 b2,a_ 111 b3,a_ 112 b4,a_ 113 b5]) (λW vals hW _=>ij (x:= .tmp 4) (g:=vb.heap.size) (cs:= [a_ 109 b1,a_ 110 b2,a_ 111 b3,a_ 112 b4,a_ 113 b5]) (by kernel_rfl) rfl (by kernel_rfl) (aD (hW.rows _ _ _ Rb.o)) hu hd (by kernel_rfl)) ?_;refine eD [11] (λrd _ W' =>∃b,rd= [.map (some b)]/\Vc.heap.size<=b/\cW W' b [9]) (by kernel_rfl) (λW vals hW ag φ' hφ=> ?_) ?_
 ·simp only[af,knows]at ag
  try simp only[ai]at ag
  obtain⟨W1,q0,q1,b,hv,hb,hm⟩:=ag.2.2.2.2 (by decide);exact dN (m:= .tmp 11) (k:= .const (.int .i64 9)) (x:= .tmp 20) (j:=9) (v:= .agg #[a_ 109 b1,a_ 110 b2,a_ 111 b3,a_ 112 b4,a_ 113 b5]) (by kernel_rfl) rfl ((show _=vals 11 by kernel_rfl).trans hv) (by kernel_rfl) (by kernel_rfl) (by decide) hb (q1.maps b [] hb hm) ((show Sh W 9 (.agg #[a_ 109 b1,a_ 110 b2,a_ 111 b3,a_ 112 b4,a_ 113 b5])from oD.rows Sb.o hW.rows)) (λW' hM=>hφ.o _ _ ⟨b,by rw[eu,fU,hv],hb,hM⟩)
 refine ak (.agg #[a_ 109 c1,a_ 110 c2,a_ 111 c3,a_ 112 c4,a_ 113 c5]) (λW vals hW _=>ij (x:= .tmp 5) (g:=vc.heap.size) (cs:= [a_ 109 c1,a_ 110 c2,a_ 111 c3,a_ 112 c4,a_ 113 c5]) (by kernel_rfl) rfl (by kernel_rfl) (aD (hW.rows _ _ _ Rc.o)) hu hd (by kernel_rfl)) ?_;refine eD [11] (λrd _ W' =>∃b,rd= [.map (some b)]/\Vc.heap.size<=b/\cW W' b [10]) (by kernel_rfl) (λW vals hW ag φ' hφ=> ?_) ?_
 ·simp only[af,knows]at ag
  try simp only[ai]at ag
  obtain⟨W1,q0,q1,b,hv,hb,hm⟩:=ag.2.2.2.2 (by decide);exact dN (m:= .tmp 11) (k:= .const (.int .i64 10)) (x:= .tmp 21) (j:=10) (v:= .agg #[a_ 109 c1,a_ 110 c2,a_ 111 c3,a_ 112 c4,a_ 113 c5]) (by kernel_rfl) rfl ((show _=vals 11 by kernel_rfl).trans hv) (by kernel_rfl) (by kernel_rfl) (by decide) hb (q1.maps b [] hb hm) ((show Sh W 10 (.agg #[a_ 109 c1,a_ 110 c2,a_ 111 c3,a_ 112 c4,a_ 113 c5])from oD.rows Sc.o hW.rows)) (λW' hM=>hφ.o _ _ ⟨b,by rw[eu,fU,hv],hb,hM⟩)
 refine bH (λv W' =>sO W' 0 v) (λW vals hW ag φ' hφ=>ik (f:=88) (args:= #[.int .i64 0]) (by kernel_rfl) (by kernel_rfl) ((jr W 0).mono (by rintro e w2 ⟨v,rfl,hv,hk⟩;exact⟨v,rfl,hk,hφ.o _ _ hv⟩))) ?_;refine eD [11] (λrd _ W' =>∃b,rd= [.map (some b)]/\Vc.heap.size<=b/\cW W' b [11]) (by kernel_rfl) (λW vals hW ag φ' hφ=> ?_) ?_
 ·simp only[af,knows]at ag
  try simp only[ai]at ag
  obtain⟨W1,q0,q1,b,hv,hb,hm⟩:=ag.2.2.2.2.2 (by decide);exact dN (m:= .tmp 11) (k:= .const (.int .i64 11)) (x:= .tmp 22) (j:=11) (v:=vals 22) (by kernel_rfl) rfl ((show _=vals 11 by kernel_rfl).trans hv) (by kernel_rfl) (by kernel_rfl) (by decide) hb (q1.maps b [] hb hm) ((show Sh W 11 (vals 22)from by obtain⟨W2,p0,p1,hs⟩:=ag.1 (by decide);exact(vr hs (.inr ⟨by decide,rfl⟩)).rows p1.rows)) (λW' hM=>hφ.o _ _ ⟨b,by rw[eu,fU,hv],hb,hM⟩)
 refine ak (.agg #[bG 48,bG 49,.nilFunc,.nilFunc,bG 50]) (λW vals hW _=>ij (x:= .tmp 1) (g:=w.heap.size) (cs:= [bG 48,bG 49,.nilFunc,.nilFunc,bG 50]) (by kernel_rfl) rfl (by kernel_rfl) (aD (hW.rows _ _ _ RN.o)) hu hd (by kernel_rfl)) ?_;refine eD [11] (λrd _ W' =>∃b,rd= [.map (some b)]/\Vc.heap.size<=b/\cW W' b [12]) (by kernel_rfl) (λW vals hW ag φ' hφ=> ?_) ?_
 ·simp only[af,knows]at ag
  try simp only[ai]at ag
  obtain⟨W1,q0,q1,b,hv,hb,hm⟩:=ag.2.2.2.2.2 (by decide);exact dN (m:= .tmp 11) (k:= .const (.int .i64 12)) (x:= .tmp 23) (j:=12) (v:=yB) (by kernel_rfl) rfl ((show _=vals 11 by kernel_rfl).trans hv) (by kernel_rfl) (by kernel_rfl) (by decide) hb (q1.maps b [] hb hm) (rfl) (λW' hM=>hφ.o _ _ ⟨b,by rw[eu,fU,hv],hb,hM⟩)
 refine ak (.agg #[bG 48,bG 49,.nilFunc,.nilFunc,bG 50]) (λW vals hW _=>ij (x:= .tmp 1) (g:=w.heap.size) (cs:= [bG 48,bG 49,.nilFunc,.nilFunc,bG 50]) (by kernel_rfl) rfl (by kernel_rfl) (aD (hW.rows _ _ _ RN.o)) hu hd (by kernel_rfl)) ?_;refine eD [11] (λrd _ W' =>∃b,rd= [.map (some b)]/\Vc.heap.size<=b/\cW W' b [13]) (by kernel_rfl) (λW vals hW ag φ' hφ=> ?_) ?_
 ·simp only[af,knows]at ag
  try simp only[ai]at ag
  obtain⟨W1,q0,q1,b,hv,hb,hm⟩:=ag.2.2.2.2.2 (by decide);exact dN (m:= .tmp 11) (k:= .const (.int .i64 13)) (x:= .tmp 24) (j:=13) (v:=yB) (by kernel_rfl) rfl ((show _=vals 11 by kernel_rfl).trans hv) (by kernel_rfl) (by kernel_rfl) (by decide) hb (q1.maps b [] hb hm) (rfl) (λW' hM=>hφ.o _ _ ⟨b,by rw[eu,fU,hv],hb,hM⟩)
 refine ak (.agg #[bG 48,bG 49,.nilFunc,.nilFunc,bG 50]) (λW vals hW _=>ij (x:= .tmp 1) (g:=w.heap.size) (cs:= [bG 48,bG 49,.nilFunc,.nilFunc,bG 50]) (by kernel_rfl) rfl (by kernel_rfl) (aD (hW.rows _ _ _ RN.o)) hu hd (by kernel_rfl)) ?_;refine eD [11] (λrd _ W' =>∃b,rd= [.map (some b)]/\Vc.heap.size<=b/\cW W' b [14]) (by kernel_rfl) (λW vals hW ag φ' hφ=> ?_) ?_
 ·simp only[af,knows]at ag
  try simp only[ai]at ag
  obtain⟨W1,q0,q1,b,hv,hb,hm⟩:=ag.2.2.2.2.2 (by decide);exact dN (m:= .tmp 11) (k:= .const (.int .i64 14)) (x:= .tmp 25) (j:=14) (v:=yB) (by kernel_rfl) rfl ((show _=vals 11 by kernel_rfl).trans hv) (by kernel_rfl) (by kernel_rfl) (by decide) hb (q1.maps b [] hb hm) (rfl) (λW' hM=>hφ.o _ _ ⟨b,by rw[eu,fU,hv],hb,hM⟩)
 refine aq (λW vals hW ag=> ?_);simp only[af,aw,eu,fU]at ag
 try simp only[ai]at ag
 obtain⟨SN,SP,i12,i11,_,SQ,i9,i8,i7,_,i6,_,i5,_,i4,_,i3,i2,i1,⟨_,_,q1,b0,hv,hb0,_⟩⟩:=ag;have tk:∀(b:Nat) (S:List Nat) (W0:au),mF Vc.heap.size W0 W-> [vals 11]= [Value.map (some b)]->Vc.heap.size<=b->cW W0 b S->cW W b0 S:=λb S W0 hr e hb hm=>by
  rw[hv]at e
  iterate 3
   injection e with e
  subst e;exact hr.maps _ _ hb hm
 have j1:cW W b0 [1]:=by
  obtain⟨_,W0,_,q,b,e,hb,hm⟩:=i1;exact tk b [1] W0 q e hb hm
 have j2:cW W b0 [2]:=by
  obtain⟨_,W0,_,q,b,e,hb,hm⟩:=i2;exact tk b [2] W0 q e hb hm
 have j3:cW W b0 [3]:=by
  obtain⟨_,W0,_,q,b,e,hb,hm⟩:=i3;exact tk b [3] W0 q e hb hm
 have j4:cW W b0 [4]:=by
  obtain⟨_,W0,_,q,b,e,hb,hm⟩:=i4;exact tk b [4] W0 q e hb hm
 have j5:cW W b0 [5]:=by
  obtain⟨_,W0,_,q,b,e,hb,hm⟩:=i5;exact tk b [5] W0 q e hb hm
 have j6:cW W b0 [6]:=by
  obtain⟨_,W0,_,q,b,e,hb,hm⟩:=i6;exact tk b [6] W0 q e hb hm
 have j7:cW W b0 [7]:=by
  obtain⟨_,W0,_,q,b,e,hb,hm⟩:=i7;exact tk b [7] W0 q e hb hm
 have j8:cW W b0 [8]:=by
  obtain⟨_,W0,_,q,b,e,hb,hm⟩:=i8;exact tk b [8] W0 q e hb hm
 have j9:cW W b0 [9]:=by
  obtain⟨_,W0,_,q,b,e,hb,hm⟩:=i9;exact tk b [9] W0 q e hb hm
 have SL:cW W b0 [10]:=by
  obtain⟨_,W0,_,q,b,e,hb,hm⟩:=SQ;exact tk b [10] W0 q e hb hm
 have SK:cW W b0 [11]:=by
  obtain⟨_,W0,_,q,b,e,hb,hm⟩:=i11;exact tk b [11] W0 q e hb hm
 have SJ:cW W b0 [12]:=by
  obtain⟨_,W0,_,q,b,e,hb,hm⟩:=i12;exact tk b [12] W0 q e hb hm
 have SI:cW W b0 [13]:=by
  obtain⟨_,W0,_,q,b,e,hb,hm⟩:=SP;exact tk b [13] W0 q e hb hm
 have SH:cW W b0 [14]:=by
  obtain⟨_,W0,_,q,b,e,hb,hm⟩:=SN;exact tk b [14] W0 q e hb hm
 have HM:=zh (show sP W b0 from(j1.join (j2.join (j3.join (j4.join (j5.join (j6.join (j7.join (j8.join (j9.join (SL.join (SK.join (SJ.join (SI.join SH))))))))))))));have IK:=zh (HK.o.ah hW.keeps);simp only[af,fill,Act.put,bo,bn,bh];rw[hv];clear tk hv hW q1 hb0 j1 i1 j2 i2 j3 i3 j4 i4 j5 i5 j6 i6 j7 i7 j8 i8 j9 i9 SL SQ SK i11 SJ i12 SI SP SH SN
 go_wp2_with fail
 go_ret;exact⟨b0,rfl,HM.o,IK.o⟩
end Go.Proofs.YtahbikfbjenfpaaGreatDoor
