/- Maps whose elements are any values: what is looked up is told by value. Package packet: a kind's shape; the functions that make one. Package packet: the map of the shapes, its entries laid in any order. Package packet: the shapes of all kinds. -/
import Derived.Test.YtahbikfbjenfpaaGreatDoorPa9
import Derived.Maps.Own
import Derived.Test.YtahbikfbjenfpaaGreatDoorPa22
import Derived.Test.YtahbikfbjenfpaaGreatDoorPa32

namespace Go.Proofs.YtahbikfbjenfpaaGreatDoor
open Go.RowKit Go.Maps
open Go.WideElems (Fit rd rg pl rd_val)

/-- An element as it is. -/
def heldR (v:Value):Option (DataW Value×List MemPlace):=some (.held v, [])

section
variable {P:Program} {k e t:TypeId} {w w' :World} {b n:Nat} {D:DataW Value}
/-- Block b is a map of at most n entries whose elements D tells. -/
abbrev HMap (w:World)(P:Program)(k:TypeId)(b n:Nat)(D:DataW Value):Prop:=w.ownsMap P k heldR b n D
theorem HMap.keep {S:List Nat}(h:HMap w P k b n D)(hk:Keeps w w' S)(hb:b∉S):HMap w' P k b n D:=by
 have hlt:=h.lt;obtain⟨es,clock,hb',F,hs,hD⟩:=h;exact⟨es,clock,(hk.block b hlt hb).trans hb',F,hs,hD⟩

/-- An element that is there. -/
theorem HMap.there (h:HMap w P k b n D)(K:Keyed P k)(ht:P.underlying t=some (.map k e)){z:Value}(hz:(zeroValue e).run P w= .ok z w){key v:Value}{kl:Lit}(hkey:keyOf P k key=some kl)
  (hat:∀zd,D.atKey kl zd= .held v) (c:Bool):(Instr.lookup t (.map (some b)) key c).run P w= .ok (if c then .tuple #[v,.bool true]else v) w:=by
 obtain⟨es,clock,hb,F,_,rfl⟩:=h
 rcases fit_look c K ht hz hb F hkey with⟨_,_,h2⟩ | ⟨e0,y,_,_,hrun,hR,h2,_⟩
 ·have:=h2 .nil
  rw[hat]at this
  cases this
 ·have h3:=h2 .nil
  rw[hat]at h3;simp only[heldR,Option.some.injEq]at hR;subst hR;injection h3 with h3
  rw[hrun,h3]
/-- One that is not there. -/
theorem HMap.missing (h:HMap w P k b n D)(K:Keyed P k)(ht:P.underlying t=some (.map k e)){z:Value}(hz:(zeroValue e).run P w= .ok z w){key:Value}{kl:Lit}(hkey:keyOf P k key=some kl)
  (hat:∀zd,D.atKey kl zd=zd) (c:Bool):(Instr.lookup t (.map (some b)) key c).run P w= .ok (if c then .tuple #[z,.bool false]else z) w:=by
 obtain⟨es,clock,hb,F,_,rfl⟩:=h
 rcases fit_look c K ht hz hb F hkey with⟨hrun,_,_⟩ | ⟨e0,y,_,_,hrun,hR,h2,_⟩
 ·exact hrun
 ·have h3:=h2 .nil
  rw[hat]at h3;simp only[heldR,Option.some.injEq]at hR;subst hR
  cases h3

end
end Go.Proofs.YtahbikfbjenfpaaGreatDoor

namespace Go.Proofs.YtahbikfbjenfpaaGreatDoor
open Go.RowKit Go.Maps

abbrev pkFn (i:FuncId):Value:= .func (.func i) #[] #[]
abbrev pkCl (i:FuncId)(b:Nat):Value:= .func (.func i) #[] #[.pointer (some ⟨b,0,none⟩)]
/-- A shape that `list` has made. -/
def ShL (w:World)(fl:Int)(hs my wr rd:FuncId)(v:Value):Prop:=∃b1 b2 b3 b4 b5,v= .agg #[pkCl 109 b1,pkCl 110 b2,pkCl 111 b3,pkCl 112 b4,pkCl 113 b5]∧
 (Row w b1 30 #[pkFn my]∧Row w b2 51 #[pkFn hs]∧Row w b3 3 #[.int .i64 fl])∧Row w b4 53 #[pkFn wr]∧Row w b5 110 #[pkFn rd]
/-- What keeps all rows. -/
def RowsAll (w w' :World):Prop:=∀b t cs,Row w b t cs→Row w' b t cs
theorem ShL.rows {w w' :World}{fl:Int}{hs my wr rd:FuncId}{v:Value}(h:ShL w fl hs my wr rd v)(hk:RowsAll w w'):ShL w' fl hs my wr rd v:=by
 obtain⟨b1,b2,b3,b4,b5,e,⟨h1,h2,h3⟩,h4,h5⟩:=h;exact⟨b1,b2,b3,b4,b5,e,⟨hk _ _ _ h1,hk _ _ _ h2,hk _ _ _ h3⟩,hk _ _ _ h4,hk _ _ _ h5⟩
theorem RowsAll.of {w w' :World}(h:Keeps w w' []):RowsAll w w' :=fun _ _ _ hr=>hr.keeps h
def ShAns (w:World)(fl:Int)(v:Value):Prop:=ShL w fl 139 140 141 142 v
def shCon:Value:= .agg #[pkFn 125,pkFn 128,.nilFunc,pkFn 129,pkFn 131]
def shAck:Value:= .agg #[pkFn 51,pkFn 53,.nilFunc,pkFn 54,pkFn 57]
def shPub:Value:= .agg #[pkFn 132,pkFn 133,pkFn 134,pkFn 136,pkFn 137]
def shNone:Value:= .agg #[pkFn 48,pkFn 49,.nilFunc,.nilFunc,pkFn 50]
def shZero:Value:= .agg #[.nilFunc,.nilFunc,.nilFunc,.nilFunc,.nilFunc]
def Sh8 (w:World)(v:Value):Prop:=ShL w 2 60 61 66 68 v
def Sh9 (w:World)(v:Value):Prop:=ShL w 0 72 73 76 77 v
def Sh10 (w:World)(v:Value):Prop:=ShL w 2 80 81 83 84 v
theorem undShape:∃d,Tryz.prog.underlying 56=some d∧d.isRow=true:=⟨_,Tryz.underlying56,rfl⟩
/-- A kind's shape. -/
def Sh (w:World)(k:Nat)(v:Value):Prop:=
 if k=1 then v=shCon else if k=2 then v=shAck else if k=3 then v=shPub else if k=8 then Sh8 w v else if k=9 then Sh9 w v else if k=10 then Sh10 w v
 else if k=12∨k=13∨k=14 then v=shNone else if k=6 then ShAns w 2 v else ShAns w 0 v
theorem Sh.rows {w w' :World}{k:Nat}{v:Value}(h:Sh w k v)(hk:RowsAll w w'):Sh w' k v:=by
 unfold Sh at h ⊢
 split
 ·rename_i e;rw[if_pos e]at h;exact h
 rename_i e1;rw[if_neg e1]at h
 split
 ·rename_i e;rw[if_pos e]at h;exact h
 rename_i e2;rw[if_neg e2]at h
 split
 ·rename_i e;rw[if_pos e]at h;exact h
 rename_i e3;rw[if_neg e3]at h
 split
 ·rename_i e;rw[if_pos e]at h;exact ShL.rows h hk
 rename_i e4;rw[if_neg e4]at h
 split
 ·rename_i e;rw[if_pos e]at h;exact ShL.rows h hk
 rename_i e5;rw[if_neg e5]at h
 split
 ·rename_i e;rw[if_pos e]at h;exact ShL.rows h hk
 rename_i e6;rw[if_neg e6]at h
 split
 ·rename_i e;rw[if_pos e]at h;exact h
 rename_i e7;rw[if_neg e7]at h
 split
 ·rename_i e;rw[if_pos e]at h;exact ShL.rows h hk
 ·rename_i e;rw[if_neg e]at h;exact ShL.rows h hk
set_option maxRecDepth 100000 in
set_option maxHeartbeats 1000000 in
theorem pkList_any (w:World)(fl:Int)(hs my wr rd:FuncId):
  Calls Tryz.prog 59 #[.int .i64 fl,pkFn hs,pkFn my,pkFn wr,pkFn rd] w fun e w' =>∃v,e= .returned v∧ShL w' fl hs my wr rd v∧Keeps w w' []:=by
 have hmf:∀(fn:Fn) (first cap:Array Value) (w:World),(Instr.makeFunc fn first cap).run Tryz.prog w= .ok (.func fn first cap) w:=fun _ _ _ _=>rfl
 obtain⟨W1,hW1⟩:∃W1,w.alloc (.cells #[.int .i64 fl] 3)=W1:=⟨_,rfl⟩;obtain⟨W2,hW2⟩:∃W2,W1.alloc (.cells #[pkFn hs] 51)=W2:=⟨_,rfl⟩;obtain⟨W3,hW3⟩:∃W3,W2.alloc (.cells #[pkFn my] 30)=W3:=⟨_,rfl⟩;obtain⟨W4,hW4⟩:∃W4,W3.alloc (.cells #[pkFn wr] 53)=W4:=⟨_,rfl⟩;obtain⟨W5,hW5⟩:∃W5,W4.alloc (.cells #[pkFn rd] 110)=W5:=⟨_,rfl⟩;have k1:Keeps w W1 []:=by rw[←hW1];exact Keeps.alloc _ _
 have k2:Keeps W1 W2 []:=by rw[←hW2];exact Keeps.alloc _ _
 have k3:Keeps W2 W3 []:=by rw[←hW3];exact Keeps.alloc _ _
 have k4:Keeps W3 W4 []:=by rw[←hW4];exact Keeps.alloc _ _
 have k5:Keeps W4 W5 []:=by rw[←hW5];exact Keeps.alloc _ _
 have H1:=zh (show Row W5 w.heap.size 3 #[.int .i64 fl]from((((show Row W1 w.heap.size 3 #[.int .i64 fl]by rw[←hW1];exact Row.new _ _ _).keeps k2).keeps k3).keeps k4).keeps k5);have H2:=zh (show Row W5 W1.heap.size 51 #[pkFn hs]from(((show Row W2 W1.heap.size 51 #[pkFn hs]by rw[←hW2];exact Row.new _ _ _).keeps k3).keeps k4).keeps k5);have H3:=zh (show Row W5 W2.heap.size 30 #[pkFn my]from((show Row W3 W2.heap.size 30 #[pkFn my]by rw[←hW3];exact Row.new _ _ _).keeps k4).keeps k5);have H4:=zh (show Row W5 W3.heap.size 53 #[pkFn wr]from(show Row W4 W3.heap.size 53 #[pkFn wr]by rw[←hW4];exact Row.new _ _ _).keeps k5);have H5:=zh (show Row W5 W4.heap.size 110 #[pkFn rd]by rw[←hW5];exact Row.new _ _ _);have HK:=zh ((((k1.then_ k2).then_ k3).then_ k4).then_ k5);clear k1 k2 k3 k4 k5
 go_enter Tryz.func59,Tryz.ntmps59
 go_wp2_with fail
 obtain⟨d,hu,hd⟩:=undShape;refine bodyPost_ret (results_row (s:=10) (cs:= [pkCl 109 W2.heap.size,pkCl 110 W1.heap.size,pkCl 111 w.heap.size,pkCl 112 W3.heap.size,pkCl 113 W4.heap.size]) rfl rfl (range_row (Row.new W5 _ _)) hu hd (by kernel_rfl)) rfl ⟨_,rfl,⟨W2.heap.size,W1.heap.size,w.heap.size,W3.heap.size,W4.heap.size,rfl, ?_⟩, ?_⟩
 ·exact⟨⟨H3.out.alloc _,H2.out.alloc _,H1.out.alloc _⟩,H4.out.alloc _,H5.out.alloc _⟩
 ·exact HK.out.then_alloc _
set_option maxRecDepth 100000 in
set_option maxHeartbeats 400000 in
theorem pkAnswer_any (w:World)(fl:Int):Calls Tryz.prog 88 #[.int .i64 fl] w fun e w' =>∃v,e= .returned v∧ShAns w' fl v∧Keeps w w' []:=by
 have HL:=zh (pkList_any (w.alloc (.cells #[.nilFunc,.nilFunc,.nilFunc,.nilFunc,.nilFunc] 56)) fl 139 140 141 142)
 go_enter Tryz.func88,Tryz.ntmps88
 go_wp2_with fail
 refine HL.out.mono ?_;rintro e w1 ⟨v,rfl,hv,hk⟩;obtain⟨b1,b2,b3,b4,b5,rfl,hrows⟩:=hv;have HV:=zh hrows;have hr:=(Row.new w 56 #[.nilFunc,.nilFunc,.nilFunc,.nilFunc,.nilFunc]).keeps hk;have HK:=zh ((Keeps.alloc w (.cells #[.nilFunc,.nilFunc,.nilFunc,.nilFunc,.nilFunc] 56)).then_ hk);have HR:=zh hr;clear hk hr hrows
 go_wp2_with (refine wpList_store_row rfl (.tmp 2) (.tmp 4) 56 rfl w.heap.size #[pkCl 109 b1,pkCl 110 b2,pkCl 111 b3,pkCl 112 b4,pkCl 113 b5] #[.nilFunc,.nilFunc,.nilFunc,.nilFunc,.nilFunc] HR.out (by kernel_rfl) rfl (by simp[Value.oneCell']) rfl rfl ?_;intro w7 r7 k7;refine Hid.out ?_)
 refine zh ?_;have HR7:=zh r7;have HK7:=zh (HK.out.trans k7 (fun x hx hlt=>by simp at hx;omega));have HV7:=zh (show(Row w7 b1 30 #[pkFn 140]∧Row w7 b2 51 #[pkFn 139]∧Row w7 b3 3 #[.int .i64 fl])∧Row w7 b4 53 #[pkFn 141]∧Row w7 b5 110 #[pkFn 142]by
  obtain⟨⟨h1,h2,h3⟩,h4,h5⟩:=HV.out;exact⟨⟨h1.keep k7 (by simpa using Row.ne_type h1 HR.out (by decide)),h2.keep k7 (by simpa using Row.ne_type h2 HR.out (by decide)),h3.keep k7 (by simpa using Row.ne_type h3 HR.out (by decide))⟩,h4.keep k7 (by simpa using Row.ne_type h4 HR.out (by decide)),h5.keep k7 (by simpa using Row.ne_type h5 HR.out (by decide))⟩)
 clear r7 k7
 go_wp2_with fail
 obtain⟨d,hu,hd⟩:=undShape;exact bodyPost_ret (results_row (s:=2) (cs:= [pkCl 109 b1,pkCl 110 b2,pkCl 111 b3,pkCl 112 b4,pkCl 113 b5]) rfl rfl (range_row HR7.out) hu hd (by kernel_rfl)) rfl ⟨_,rfl,⟨b1,b2,b3,b4,b5,rfl,HV7.out⟩,HK7.out⟩
set_option maxRecDepth 100000 in
set_option maxHeartbeats 400000 in
theorem pkConnect_any (w:World):Calls Tryz.prog 86 #[] w fun e w' =>e= .returned shCon∧Keeps w w' []:=by
 go_enter Tryz.func86,Tryz.ntmps86
 go_wp2_with fail
 obtain⟨d,hu,hd⟩:=undShape;exact bodyPost_ret (results_row (s:=0) (cs:= [pkFn 125,pkFn 128,.nilFunc,pkFn 129,pkFn 131]) rfl rfl (range_row (Row.new w _ _)) hu hd (by kernel_rfl)) rfl ⟨rfl,Keeps.alloc _ _⟩
set_option maxRecDepth 100000 in
set_option maxHeartbeats 400000 in
theorem pkPublish_any (w:World):Calls Tryz.prog 87 #[] w fun e w' =>e= .returned shPub∧Keeps w w' []:=by
 go_enter Tryz.func87,Tryz.ntmps87
 go_wp2_with fail
 obtain⟨d,hu,hd⟩:=undShape;exact bodyPost_ret (results_row (s:=0) (cs:= [pkFn 132,pkFn 133,pkFn 134,pkFn 136,pkFn 137]) rfl rfl (range_row (Row.new w _ _)) hu hd (by kernel_rfl)) rfl ⟨rfl,Keeps.alloc _ _⟩

theorem undPkk:Tryz.prog.underlying 22=some (.int .i64):=by kernel_rfl
theorem undPkM:Tryz.prog.underlying 57=some (.map 22 56):=by kernel_rfl
theorem shZ (w:World):(zeroValue 56).run Tryz.prog w= .ok shZero w:=by kernel_rfl
theorem pkWf64 (k:Int)(h1: -9223372036854775808≤k)(h2:k≤9223372036854775807):(Lit.int .i64 k).wf=true:=by
 have m1:IntKind.i64.min= -9223372036854775808:=by decide
 have m2:IntKind.i64.max=9223372036854775807:=by decide
 show(decide (IntKind.i64.min≤k) && decide (k≤IntKind.i64.max))=true;rw[m1,m2];simp[h1,h2]
abbrev kLit (j:Nat):Lit:= .int .i64 (j:Int)
theorem kLit_same (j:Nat)(n:Int):(kLit j).sameKey (.int .i64 n)=decide ((j:Int)=n):=by
 simp[Lit.sameKey]
/-- Entries: each kind once, with its shape. -/
def ShGood (w:World)(ds:List (Lit×DataW Value)):Prop:=(ds.map (·.1)).Nodup∧∀x∈ds,∃k:Nat,(1≤k∧k≤14)∧x.1=kLit k∧∃v,x.2= .held v∧Sh w k v
/-- Block b is a map of shapes, in which are at least these kinds. -/
def ShMap (w:World)(b:Nat)(S:List Nat):Prop:=∃ds:List (Lit×DataW Value),HMap w Tryz.prog 22 b ds.length (.map ds)∧ShGood w ds∧∀j∈S,∃x∈ds,x.1=kLit j
theorem ShGood.rows {w w' :World}{ds:List (Lit×DataW Value)}(h:ShGood w ds)(hk:RowsAll w w'):ShGood w' ds:=⟨h.1,fun x hx=>by
 obtain⟨k,h1,h2,v,h3,h4⟩:=h.2 x hx;exact⟨k,h1,h2,v,h3,h4.rows hk⟩⟩
theorem hmap_same {w:World}{b n n' :Nat}{ds ds' :List (Lit×DataW Value)}(h:HMap w Tryz.prog 22 b n (.map ds))(h' :HMap w Tryz.prog 22 b n' (.map ds')):ds=ds' :=by
 obtain⟨es,c,h1,_,_,h2⟩:=h;obtain⟨es',c',h1',_,_,h2'⟩:=h';rw[h1]at h1';injection h1' with h1'
 injection h1' with h1' h3
 subst h1';injection h2 with h2
 injection h2' with h2'
 rw[h2,h2']
theorem ShMap.join {w:World}{b:Nat}{S T:List Nat}(h:ShMap w b S)(g:ShMap w b T):ShMap w b (S++T):=by
 obtain⟨ds,h1,h2,h3⟩:=h;obtain⟨es,g1,g2,g3⟩:=g;obtain rfl:=hmap_same h1 g1;exact⟨ds,h1,h2,fun j hj=>(List.mem_append.1 hj).elim (h3 j) (g3 j)⟩
theorem hmap_tight {w:World}{b n:Nat}{ds:List (Lit×DataW Value)}(h:HMap w Tryz.prog 22 b n (.map ds)):HMap w Tryz.prog 22 b ds.length (.map ds):=by
 obtain⟨es,c,h1,F,_,h2⟩:=h;refine⟨es,c,h1,F, ?_,h2⟩;injection h2 with h2
 rw[h2,DataW.length_sorted,List.length_map];simp
theorem nodup_le {α:Type} [BEq α] [LawfulBEq α]:∀{l m:List α},l.Nodup→(∀x∈l,x∈m)→l.length≤m.length
 | [],_,_,_=>Nat.zero_le _
 | a::l,m,h,hs=>by
  have ha:=hs a (by simp);have h1:=List.nodup_cons.1 h;have h2:=nodup_le (l:=l) (m:=m.erase a) h1.2 (fun x hx=>(List.mem_erase_of_ne (show x≠a from fun e=>h1.1 (by rw[←e];exact hx))).2 (hs x (by simp[hx])));rw[List.length_erase_of_mem ha]at h2;have:=List.length_pos_of_mem ha;simp only[List.length_cons];omega
theorem ShGood.le {w:World}{ds:List (Lit×DataW Value)}(h:ShGood w ds):ds.length≤14:=by
 obtain⟨h1,h2⟩:=h;have h3:∃ks:List Nat,ks.map kLit=ds.map (·.1)∧∀k∈ks,1≤k∧k≤14:=by
  clear h1
  induction ds with
  | nil=>exact⟨[],rfl,by simp⟩
  | cons x ds ih=>
   obtain⟨ks,g1,g2⟩:=ih (fun y hy=>h2 y (by simp[hy]));obtain⟨k,e1,e2,_⟩:=h2 x (by simp);exact⟨k::ks,by simp[g1,e2],fun j hj=>by
    rcases List.mem_cons.1 hj with rfl | hj
    ·exact e1
    ·exact g2 j hj⟩
 obtain⟨ks,g1,g2⟩:=h3;have hn:ks.Nodup:=by
  rw[←g1]at h1;exact(List.pairwise_map.1 h1).imp (fun h e=>h (by rw[e]))
 have hl:ks.length=ds.length:=by
  have:=congrArg List.length g1
  simpa using this
 have:=nodup_le (m:=List.range' 1 14) hn (fun k hk=>by
  have:=g2 k hk;rw[List.mem_range'_1];omega)
 simp only[List.length_range']at this;omega
theorem insert_perm {x:Lit×DataW Value}:∀l:List (Lit×DataW Value),(DataW.insert x l).Perm (x::l)
 | []=>List.Perm.refl _
 | y::l=>by
  unfold DataW.insert
  split
  ·exact List.Perm.refl _
  ·exact((insert_perm l).cons y).trans (List.Perm.swap x y l)
/-- An entry more. -/
theorem ShGood.put {w:World}{ds:List (Lit×DataW Value)}(h:ShGood w ds){j:Nat}(hj:1≤j∧j≤14){v:Value}(hv:Sh w j v):
  ShGood w (DataW.insert (kLit j,.held v) (ds.filter fun p=> !p.1.sameKey (kLit j)))∧(∀i,(i=j∨∃x∈ds,x.1=kLit i)→∃x∈DataW.insert (kLit j,.held v) (ds.filter fun p=> !p.1.sameKey (kLit j)),x.1=kLit i):=by
 have hp:=insert_perm (x:=(kLit j,.held v)) (ds.filter fun p=> !p.1.sameKey (kLit j));refine⟨⟨?_,fun x hx=> ?_⟩,fun i hi=> ?_⟩
 ·rw[(hp.map (·.1)).nodup_iff,List.map_cons,List.nodup_cons]
  refine⟨fun hm=> ?_, ?_⟩
  ·obtain⟨y,hy,e⟩:=List.mem_map.1 hm
   have:=(List.mem_filter.1 hy).2;rw[e,kLit_same]at this;simp at this
  ·exact(List.Sublist.map _ List.filter_sublist).nodup h.1
 ·rcases List.mem_cons.1 (hp.mem_iff.1 hx)with rfl | hx
  ·exact⟨j,hj,rfl,v,rfl,hv⟩
  ·exact h.2 x (List.mem_filter.1 hx).1
 ·by_cases e:i=j
  ·subst e
   exact⟨_,hp.mem_iff.2 (List.mem_cons_self ..),rfl⟩
  ·rcases hi with rfl | ⟨x,hx,ex⟩
   ·exact absurd rfl e
   ·refine⟨x,hp.mem_iff.2 (List.mem_cons_of_mem _ (List.mem_filter.2 ⟨hx, ?_⟩)),ex⟩
    rw[ex,kLit_same];simp;omega
/-- What each operation keeps. -/
structure RelS (n0:Nat)(w w' :World):Prop where
 os:w'.os=w.os
 tape:w'.tape=w.tape
 output:w'.output=w.output
 size:w.heap.size≤w'.heap.size
 block:∀k,k < n0→k < w.heap.size→w'.heap[k]? =w.heap[k]?
 rows:RowsAll w w'
 maps:∀b S,n0≤b→ShMap w b S→ShMap w' b S
theorem RelS.of {n0:Nat}{w w' :World}(h:Keeps w w' []):RelS n0 w w' :=⟨h.os,h.tape,h.output,h.size,fun k _ hk=>h.block k hk (by simp),.of h,fun b S _ hm=>by
 obtain⟨ds,h1,h2,h3⟩:=hm;exact⟨ds,h1.keep h (by simp),h2.rows (.of h),h3⟩⟩
theorem RelS.refl (n0:Nat)(w:World):RelS n0 w w:= .of (Keeps.refl _ _)
theorem RelS.trans {n0:Nat}{w w' w'' :World}(h:RelS n0 w w')(k:RelS n0 w' w''):RelS n0 w w'' :=
 ⟨k.os.trans h.os,k.tape.trans h.tape,k.output.trans h.output,Nat.le_trans h.size k.size,fun i h1 h2=>(k.block i h1 (Nat.lt_of_lt_of_le h2 h.size)).trans (h.block i h1 h2),fun b t cs hr=>k.rows b t cs (h.rows b t cs hr),fun b S hb hm=>k.maps b S hb (h.maps b S hb hm)⟩
theorem RelS.keeps {w w' :World}(h:RelS w.heap.size w w'):Keeps w w' []:=⟨h.os,h.tape,h.output,h.size,fun k hk _=>h.block k hk hk⟩
section
variable {n0:Nat} {w0:World} {ops:Array Oper} {a0 a:Act} {Q:List Ent→Prop} {o:Oper} {rest:List Oper} {env:List Ent} {W:World}
theorem opOk_shCall {f:FuncId}{args:Array Value}{φ' :Value→World→Prop}(hw:Region.wanted o (yielded ops a.tmps)=true)(he:(execOp a.eval o).run Tryz.prog W= .ok (.enter f args) W)(h:Calls Tryz.prog f args W fun e w' =>∃v,e= .returned v∧Keeps W w' []∧φ' v w'):opOk Tryz.prog (RelS n0) ops a o φ' W:=by
 refine⟨?_⟩;rw[if_pos hw,he];exact⟨RelS.refl _ _,h.mono fun e w' ⟨v,h1,h2,h3⟩=>⟨v,h1,.of h2,h3⟩⟩
theorem opOk_shMake {t:TypeId}{φ' :Value→World→Prop}(hw:Region.wanted o (yielded ops a.tmps)=true)(ho:o.op= .makeMap t none)(h:φ' (.map (some W.heap.size)) (W.alloc (.map #[] 0))):opOk Tryz.prog (RelS n0) ops a o φ' W:=by
 refine⟨?_⟩;rw[if_pos hw];unfold execOp;simp only[ho,Sem.run_bind,Option.map_none,run_makeMap,Result.andThen_ok,Sem.run_pure];exact⟨.of (Keeps.alloc _ _),h⟩
theorem opOk_shPut {m k x:Operand}{b j:Nat}{v:Value}{φ' :Value→World→Prop}(hw:Region.wanted o (yielded ops a.tmps)=true)(ho:o.op= .insert 57 m k x)(hm:a.eval m= .map (some b))(hk:a.eval k= .int .i64 (j:Int))(hx:a.eval x=v)(hj:1≤j∧j≤14)(hb:n0≤b)(hM:ShMap W b [])(hv:Sh W j v)
  (h:∀W',ShMap W' b [j]→φ' undef W'):opOk Tryz.prog (RelS n0) ops a o φ' W:=by
 refine⟨?_⟩;rw[if_pos hw];obtain⟨ds,h1,h2,_⟩:=hM;have hle:=h2.le;obtain⟨w',hrun,r1,r2⟩:=h1.update (R:=heldR) (int_keyed undPkk) undPkM (Nat.lt_of_le_of_lt hle (by unfold maxLen;omega)) (key:= .int .i64 (j:Int)) (kl:=kLit j) (keyOf_int_mk undPkk (pkWf64 j (by omega) (by omega))) (val:=v) (d:= .held v) (ps:= []) rfl;have hkk:=Keeps.of_grown r2;simp only[Option.toList]at hkk;have hb1:=h1.lt;have hrows:RowsAll W w' :=fun c t cs hr=>hr.keep hkk (by
  intro hc;rw[List.mem_singleton]at hc;subst hc;obtain⟨es,cl,hh,_⟩:=h1;unfold Row at hr;rw[hh]at hr;injection hr with hr
  cases hr)
 have hput:=h2.put hj hv;have r1' :=hmap_tight (show HMap w' Tryz.prog 22 b _ (.map (DataW.insert (kLit j,.held v) (ds.filter fun p=> !p.1.sameKey (kLit j))))from r1);have hrel:RelS n0 W w' :=⟨hkk.os,hkk.tape,hkk.output,hkk.size,fun c hc hcl=>hkk.block c hcl (by rw[List.mem_singleton];omega),hrows,fun b' S hb' hm' =>by
  by_cases e:b' =b
  ·subst e
   obtain⟨es,g1,g2,g3⟩:=hm';obtain rfl:=hmap_same h1 g1;exact⟨_,r1',hput.1.rows hrows,fun i hi=>hput.2 i (.inr (g3 i hi))⟩
  ·obtain⟨es,g1,g2,g3⟩:=hm'
   exact⟨es,g1.keep hkk (by simpa using e),g2.rows hrows,g3⟩⟩
 unfold execOp;simp only[ho,hm,hk,hx,Sem.run_bind,hrun,Result.andThen_ok,Sem.run_pure];exact⟨hrel,h w' ⟨_,r1',hput.1.rows hrows,fun i hi=>hput.2 i (.inl (by simpa using hi))⟩⟩
theorem opOk_shLoad {t:TypeId}{x:Operand}{g:Nat}{cs:List Value}{d:TypeDesc}(hw:Region.wanted o (yielded ops a.tmps)=true)(ho:o.op= .load t x)(hx:a.eval x= .pointer (some ⟨g,0,none⟩))(hc:W.rangeAt g 0 cs)(hu:Tryz.prog.underlying t=some d)(hd:d.isRow=true)(hi:(Tryz.prog.info? t).map (·.size)=some cs.length):opOk Tryz.prog (RelS n0) ops a o (fun u _=>u= .agg cs.toArray) W:=
 opOk_load hw ho hx hc hu hd hi (RelS.refl _ _) rfl
end
/-- What is looked up. -/
theorem ShMap.look {W:World}{b:Nat}(h:ShMap W b [1,2,3,4,5,6,7,8,9,10,11,12,13,14])(k:Int)(h1: -9223372036854775808≤k)(h2:k≤9223372036854775807)(c:Bool):
  (1≤k∧k≤14∧∃v,Sh W k.toNat v∧(Instr.lookup 57 (.map (some b)) (.int .i64 k) c).run Tryz.prog W= .ok (if c then .tuple #[v,.bool true]else v) W)∨
  (¬(1≤k∧k≤14)∧(Instr.lookup 57 (.map (some b)) (.int .i64 k) c).run Tryz.prog W= .ok (if c then .tuple #[shZero,.bool false]else shZero) W):=by
 obtain⟨ds,hm,⟨hn,hg⟩,hS⟩:=h;have hkey:keyOf Tryz.prog 22 (.int .i64 k)=some (.int .i64 k):=keyOf_int_mk undPkk (pkWf64 k h1 h2)
 by_cases hk:1≤k∧k≤14
 ·left
  obtain⟨j,rfl⟩:∃j:Nat,k=(j:Int):=⟨k.toNat,by omega⟩;obtain⟨x,hx,ex⟩:=hS j (by
   simp only[List.mem_cons,List.not_mem_nil,or_false];omega)
  cases hf:ds.find? (fun p=>p.1.sameKey (kLit j))with
  | none=>
   have:=List.find?_eq_none.1 hf x hx;rw[ex,kLit_same]at this;simp at this
  | some y=>
   have hy:=List.mem_of_find?_eq_some hf;have hs:=List.find?_some hf;obtain⟨i,_,e2,v,e3,e4⟩:=hg y hy;rw[e2,kLit_same,decide_eq_true_eq]at hs;have hij:i=j:=by omega
   subst hij;refine⟨hk.1,hk.2,v,by simpa using e4,HMap.there hm (int_keyed undPkk) undPkM (shZ W) hkey (fun zd=> ?_) c⟩;simp only[DataW.atKey];rw[show(Lit.int IntKind.i64 ((i:Nat):Int))=kLit i from rfl,hf];exact e3
 ·right
  refine⟨hk,HMap.missing hm (int_keyed undPkk) undPkM (shZ W) hkey (fun zd=> ?_) c⟩;have hf:ds.find? (fun p=>p.1.sameKey (.int .i64 k))=none:=List.find?_eq_none.2 fun x hx=>by
   obtain⟨i,e1,e2,_⟩:=hg x hx;rw[e2,kLit_same];simp;omega
  simp only[DataW.atKey,hf]

theorem shMap_new (W:World):ShMap (W.alloc (.map #[] 0)) W.heap.size []:=
 ⟨[],World.ownsMap_made W _ _ _,⟨List.nodup_nil,by simp⟩,by simp⟩
theorem sh_ans {w:World}{k:Nat}{fl:Int}{v:Value}(h:ShAns w fl v)(hk:(k=6∧fl=2)∨((k=4∨k=5∨k=7∨k=11)∧fl=0)):Sh w k v:=by
 unfold Sh
 rcases hk with⟨rfl,rfl⟩ | ⟨hk,rfl⟩
 ·rw[if_neg (by decide),if_neg (by decide),if_neg (by decide),if_neg (by decide),if_neg (by decide),if_neg (by decide),if_neg (by decide),if_pos rfl]
  exact h
 ·rw[if_neg (by omega),if_neg (by omega),if_neg (by omega),if_neg (by omega),if_neg (by omega),if_neg (by omega),if_neg (by omega),if_neg (by omega)]
  exact h
/-- All shapes. -/
abbrev ShAll (w:World)(b:Nat):Prop:=ShMap w b [1,2,3,4,5,6,7,8,9,10,11,12,13,14]
set_option maxRecDepth 100000 in
set_option maxHeartbeats 4000000 in
theorem pkShapes_any (w:World):Calls Tryz.prog 21 #[] w fun e w' =>∃b,e= .returned (.map (some b))∧ShAll w' b∧Keeps w w' []:=by
 obtain⟨d,hu,hd⟩:=undShape;have HU:=zh (And.intro hu hd);clear hu hd;obtain⟨W1,hW1⟩:∃W1,w.alloc (.cells #[pkFn 48,pkFn 49,.nilFunc,.nilFunc,pkFn 50] 56)=W1:=⟨_,rfl⟩;obtain⟨W2,hW2⟩:∃W2,W1.alloc (.cells #[pkFn 51,pkFn 53,.nilFunc,pkFn 54,pkFn 57] 56)=W2:=⟨_,rfl⟩;have k1:Keeps w W1 []:=by rw[←hW1];exact Keeps.alloc _ _
 have k2:Keeps W1 W2 []:=by rw[←hW2];exact Keeps.alloc _ _
 have RN:=zh (show Row W2 w.heap.size 56 #[pkFn 48,pkFn 49,.nilFunc,.nilFunc,pkFn 50]from(show Row W1 w.heap.size 56 #[pkFn 48,pkFn 49,.nilFunc,.nilFunc,pkFn 50]by rw[←hW1];exact Row.new _ _ _).keeps k2);have RA:=zh (show Row W2 W1.heap.size 56 #[pkFn 51,pkFn 53,.nilFunc,pkFn 54,pkFn 57]by rw[←hW2];exact Row.new _ _ _);have HK:=zh (k1.then_ k2);clear k1 k2
 go_enter Tryz.func21,Tryz.ntmps21
 go_wp2_with fail
 clear hW1 hW2;refine(pkList_any _ 2 60 61 66 68).mono ?_;rintro e va ⟨v,rfl,hv,hk⟩;obtain⟨a1,a2,a3,a4,a5,rfl,hrows⟩:=hv;obtain⟨Va,hVa⟩:∃V,va.alloc (.cells #[pkCl 109 a1,pkCl 110 a2,pkCl 111 a3,pkCl 112 a4,pkCl 113 a5] 56)=V:=⟨_,rfl⟩;have kv:Keeps va Va []:=by rw[←hVa];exact Keeps.alloc _ _
 have Sa:=zh (show Sh8 Va (.agg #[pkCl 109 a1,pkCl 110 a2,pkCl 111 a3,pkCl 112 a4,pkCl 113 a5])from ShL.rows ⟨a1,a2,a3,a4,a5,rfl,hrows⟩ (.of kv));have Ra:=zh (show Row Va va.heap.size 56 #[pkCl 109 a1,pkCl 110 a2,pkCl 111 a3,pkCl 112 a4,pkCl 113 a5]by rw[←hVa];exact Row.new _ _ _);have kx:=hk.then_ kv;replace HK:=zh (HK.out.then_ kx);replace RN:=zh (RN.out.keeps kx);replace RA:=zh (RA.out.keeps kx);clear hk hrows kv kx
 go_wp2_with fail
 clear hVa;refine(pkList_any _ 0 72 73 76 77).mono ?_;rintro e vb ⟨v,rfl,hv,hk⟩;obtain⟨b1,b2,b3,b4,b5,rfl,hrows⟩:=hv;obtain⟨Vb,hVb⟩:∃V,vb.alloc (.cells #[pkCl 109 b1,pkCl 110 b2,pkCl 111 b3,pkCl 112 b4,pkCl 113 b5] 56)=V:=⟨_,rfl⟩;have kv:Keeps vb Vb []:=by rw[←hVb];exact Keeps.alloc _ _
 have Sb:=zh (show Sh9 Vb (.agg #[pkCl 109 b1,pkCl 110 b2,pkCl 111 b3,pkCl 112 b4,pkCl 113 b5])from ShL.rows ⟨b1,b2,b3,b4,b5,rfl,hrows⟩ (.of kv));have Rb:=zh (show Row Vb vb.heap.size 56 #[pkCl 109 b1,pkCl 110 b2,pkCl 111 b3,pkCl 112 b4,pkCl 113 b5]by rw[←hVb];exact Row.new _ _ _);have kx:=hk.then_ kv;replace HK:=zh (HK.out.then_ kx);replace RN:=zh (RN.out.keeps kx);replace RA:=zh (RA.out.keeps kx);replace Sa:=zh (show Sh8 Vb (.agg #[pkCl 109 a1,pkCl 110 a2,pkCl 111 a3,pkCl 112 a4,pkCl 113 a5])from ShL.rows Sa.out (.of kx));replace Ra:=zh (Ra.out.keeps kx);clear hk hrows kv kx
 go_wp2_with fail
 clear hVb;refine(pkList_any _ 2 80 81 83 84).mono ?_;rintro e vc ⟨v,rfl,hv,hk⟩;obtain⟨c1,c2,c3,c4,c5,rfl,hrows⟩:=hv;obtain⟨Vc,hVc⟩:∃V,vc.alloc (.cells #[pkCl 109 c1,pkCl 110 c2,pkCl 111 c3,pkCl 112 c4,pkCl 113 c5] 56)=V:=⟨_,rfl⟩;have kv:Keeps vc Vc []:=by rw[←hVc];exact Keeps.alloc _ _
 have Sc:=zh (show Sh10 Vc (.agg #[pkCl 109 c1,pkCl 110 c2,pkCl 111 c3,pkCl 112 c4,pkCl 113 c5])from ShL.rows ⟨c1,c2,c3,c4,c5,rfl,hrows⟩ (.of kv));have Rc:=zh (show Row Vc vc.heap.size 56 #[pkCl 109 c1,pkCl 110 c2,pkCl 111 c3,pkCl 112 c4,pkCl 113 c5]by rw[←hVc];exact Row.new _ _ _);have kx:=hk.then_ kv;replace HK:=zh (HK.out.then_ kx);replace RN:=zh (RN.out.keeps kx);replace RA:=zh (RA.out.keeps kx);replace Sa:=zh (show Sh8 Vc (.agg #[pkCl 109 a1,pkCl 110 a2,pkCl 111 a3,pkCl 112 a4,pkCl 113 a5])from ShL.rows Sa.out (.of kx));replace Ra:=zh (Ra.out.keeps kx);replace Sb:=zh (show Sh9 Vc (.agg #[pkCl 109 b1,pkCl 110 b2,pkCl 111 b3,pkCl 112 b4,pkCl 113 b5])from ShL.rows Sb.out (.of kx));replace Rb:=zh (Rb.out.keeps kx);clear hk hrows kv kx
 go_upto_region 6 with fail
 clear hVc;obtain⟨hu,hd⟩:=HU.out;refine wp_region_tail (RelS Vc.heap.size) _ 29 (by kernel_rfl) rfl (by kernel_rfl) (RelS.refl _) (fun _ _ _ h k=>h.trans k) (.of (Keeps.drew _)) ?_;simp only[zts,ztz,zds,zdz];refine loose_has (fun v W' =>∃b,v= .map (some b)∧Vc.heap.size≤b∧ShMap W' b []) (fun W vals hW hkn φ' hφ=>opOk_shMake (by kernel_rfl) rfl (hφ.out _ _ ⟨_,rfl,hW.size,shMap_new W⟩)) ?_;refine loose_is shCon (fun W vals hW hkn=>opOk_shCall (f:=86) (args:= #[]) (by kernel_rfl) (by kernel_rfl) ((pkConnect_any W).mono (by rintro e w2 ⟨rfl,hk⟩;exact⟨_,rfl,hk,rfl⟩))) ?_;refine loose_had [11] (fun rd _ W' =>∃b,rd= [.map (some b)]∧Vc.heap.size≤b∧ShMap W' b [1]) (by kernel_rfl) (fun W vals hW hkn φ' hφ=> ?_) ?_
 ·simp only[addEnt,knows]at hkn
  try simp only[and_true]at hkn
  obtain⟨W1,q0,q1,b,hv,hb,hm⟩:=hkn (by decide);exact opOk_shPut (m:= .tmp 11) (k:= .const (.int .i64 1)) (x:= .tmp 12) (j:=1) (v:=shCon) (by kernel_rfl) rfl ((show _=vals 11 by kernel_rfl).trans hv) (by kernel_rfl) (by kernel_rfl) (by decide) hb (q1.maps b [] hb hm) (rfl) (fun W' hM=>hφ.out _ _ ⟨b,by rw[List.map_cons,List.map_nil,hv],hb,hM⟩)
 refine loose_is (.agg #[pkFn 51,pkFn 53,.nilFunc,pkFn 54,pkFn 57]) (fun W vals hW _=>opOk_shLoad (x:= .tmp 2) (g:=W1.heap.size) (cs:= [pkFn 51,pkFn 53,.nilFunc,pkFn 54,pkFn 57]) (by kernel_rfl) rfl (by kernel_rfl) (range_row (hW.rows _ _ _ RA.out)) hu hd (by kernel_rfl)) ?_;refine loose_had [11] (fun rd _ W' =>∃b,rd= [.map (some b)]∧Vc.heap.size≤b∧ShMap W' b [2]) (by kernel_rfl) (fun W vals hW hkn φ' hφ=> ?_) ?_
 ·simp only[addEnt,knows]at hkn
  try simp only[and_true]at hkn
  obtain⟨W1,q0,q1,b,hv,hb,hm⟩:=hkn (by decide);exact opOk_shPut (m:= .tmp 11) (k:= .const (.int .i64 2)) (x:= .tmp 13) (j:=2) (v:=shAck) (by kernel_rfl) rfl ((show _=vals 11 by kernel_rfl).trans hv) (by kernel_rfl) (by kernel_rfl) (by decide) hb (q1.maps b [] hb hm) (rfl) (fun W' hM=>hφ.out _ _ ⟨b,by rw[List.map_cons,List.map_nil,hv],hb,hM⟩)
 refine loose_is shPub (fun W vals hW hkn=>opOk_shCall (f:=87) (args:= #[]) (by kernel_rfl) (by kernel_rfl) ((pkPublish_any W).mono (by rintro e w2 ⟨rfl,hk⟩;exact⟨_,rfl,hk,rfl⟩))) ?_;refine loose_had [11] (fun rd _ W' =>∃b,rd= [.map (some b)]∧Vc.heap.size≤b∧ShMap W' b [3]) (by kernel_rfl) (fun W vals hW hkn φ' hφ=> ?_) ?_
 ·simp only[addEnt,knows]at hkn
  try simp only[and_true]at hkn
  obtain⟨W1,q0,q1,b,hv,hb,hm⟩:=hkn (by decide);exact opOk_shPut (m:= .tmp 11) (k:= .const (.int .i64 3)) (x:= .tmp 14) (j:=3) (v:=shPub) (by kernel_rfl) rfl ((show _=vals 11 by kernel_rfl).trans hv) (by kernel_rfl) (by kernel_rfl) (by decide) hb (q1.maps b [] hb hm) (rfl) (fun W' hM=>hφ.out _ _ ⟨b,by rw[List.map_cons,List.map_nil,hv],hb,hM⟩)
 refine loose_has (fun v W' =>ShAns W' 0 v) (fun W vals hW hkn φ' hφ=>opOk_shCall (f:=88) (args:= #[.int .i64 0]) (by kernel_rfl) (by kernel_rfl) ((pkAnswer_any W 0).mono (by rintro e w2 ⟨v,rfl,hv,hk⟩;exact⟨v,rfl,hk,hφ.out _ _ hv⟩))) ?_;refine loose_had [11] (fun rd _ W' =>∃b,rd= [.map (some b)]∧Vc.heap.size≤b∧ShMap W' b [4]) (by kernel_rfl) (fun W vals hW hkn φ' hφ=> ?_) ?_
 ·simp only[addEnt,knows]at hkn
  try simp only[and_true]at hkn
  obtain⟨W1,q0,q1,b,hv,hb,hm⟩:=hkn.2 (by decide);exact opOk_shPut (m:= .tmp 11) (k:= .const (.int .i64 4)) (x:= .tmp 15) (j:=4) (v:=vals 15) (by kernel_rfl) rfl ((show _=vals 11 by kernel_rfl).trans hv) (by kernel_rfl) (by kernel_rfl) (by decide) hb (q1.maps b [] hb hm) ((show Sh W 4 (vals 15)from by obtain⟨W2,p0,p1,hs⟩:=hkn.1 (by decide);exact(sh_ans hs (.inr ⟨by decide,rfl⟩)).rows p1.rows)) (fun W' hM=>hφ.out _ _ ⟨b,by rw[List.map_cons,List.map_nil,hv],hb,hM⟩)
 refine loose_has (fun v W' =>ShAns W' 0 v) (fun W vals hW hkn φ' hφ=>opOk_shCall (f:=88) (args:= #[.int .i64 0]) (by kernel_rfl) (by kernel_rfl) ((pkAnswer_any W 0).mono (by rintro e w2 ⟨v,rfl,hv,hk⟩;exact⟨v,rfl,hk,hφ.out _ _ hv⟩))) ?_;refine loose_had [11] (fun rd _ W' =>∃b,rd= [.map (some b)]∧Vc.heap.size≤b∧ShMap W' b [5]) (by kernel_rfl) (fun W vals hW hkn φ' hφ=> ?_) ?_
 ·simp only[addEnt,knows]at hkn
  try simp only[and_true]at hkn
  obtain⟨W1,q0,q1,b,hv,hb,hm⟩:=hkn.2.2 (by decide);exact opOk_shPut (m:= .tmp 11) (k:= .const (.int .i64 5)) (x:= .tmp 16) (j:=5) (v:=vals 16) (by kernel_rfl) rfl ((show _=vals 11 by kernel_rfl).trans hv) (by kernel_rfl) (by kernel_rfl) (by decide) hb (q1.maps b [] hb hm) ((show Sh W 5 (vals 16)from by obtain⟨W2,p0,p1,hs⟩:=hkn.1 (by decide);exact(sh_ans hs (.inr ⟨by decide,rfl⟩)).rows p1.rows)) (fun W' hM=>hφ.out _ _ ⟨b,by rw[List.map_cons,List.map_nil,hv],hb,hM⟩)
 refine loose_has (fun v W' =>ShAns W' 2 v) (fun W vals hW hkn φ' hφ=>opOk_shCall (f:=88) (args:= #[.int .i64 2]) (by kernel_rfl) (by kernel_rfl) ((pkAnswer_any W 2).mono (by rintro e w2 ⟨v,rfl,hv,hk⟩;exact⟨v,rfl,hk,hφ.out _ _ hv⟩))) ?_;refine loose_had [11] (fun rd _ W' =>∃b,rd= [.map (some b)]∧Vc.heap.size≤b∧ShMap W' b [6]) (by kernel_rfl) (fun W vals hW hkn φ' hφ=> ?_) ?_
 ·simp only[addEnt,knows]at hkn
  try simp only[and_true]at hkn
  obtain⟨W1,q0,q1,b,hv,hb,hm⟩:=hkn.2.2.2 (by decide);exact opOk_shPut (m:= .tmp 11) (k:= .const (.int .i64 6)) (x:= .tmp 17) (j:=6) (v:=vals 17) (by kernel_rfl) rfl ((show _=vals 11 by kernel_rfl).trans hv) (by kernel_rfl) (by kernel_rfl) (by decide) hb (q1.maps b [] hb hm) ((show Sh W 6 (vals 17)from by obtain⟨W2,p0,p1,hs⟩:=hkn.1 (by decide);exact(sh_ans hs (.inl ⟨rfl,rfl⟩)).rows p1.rows)) (fun W' hM=>hφ.out _ _ ⟨b,by rw[List.map_cons,List.map_nil,hv],hb,hM⟩)
 refine loose_has (fun v W' =>ShAns W' 0 v) (fun W vals hW hkn φ' hφ=>opOk_shCall (f:=88) (args:= #[.int .i64 0]) (by kernel_rfl) (by kernel_rfl) ((pkAnswer_any W 0).mono (by rintro e w2 ⟨v,rfl,hv,hk⟩;exact⟨v,rfl,hk,hφ.out _ _ hv⟩))) ?_;refine loose_had [11] (fun rd _ W' =>∃b,rd= [.map (some b)]∧Vc.heap.size≤b∧ShMap W' b [7]) (by kernel_rfl) (fun W vals hW hkn φ' hφ=> ?_) ?_
 ·simp only[addEnt,knows]at hkn
  try simp only[and_true]at hkn
  obtain⟨W1,q0,q1,b,hv,hb,hm⟩:=hkn.2.2.2.2 (by decide);exact opOk_shPut (m:= .tmp 11) (k:= .const (.int .i64 7)) (x:= .tmp 18) (j:=7) (v:=vals 18) (by kernel_rfl) rfl ((show _=vals 11 by kernel_rfl).trans hv) (by kernel_rfl) (by kernel_rfl) (by decide) hb (q1.maps b [] hb hm) ((show Sh W 7 (vals 18)from by obtain⟨W2,p0,p1,hs⟩:=hkn.1 (by decide);exact(sh_ans hs (.inr ⟨by decide,rfl⟩)).rows p1.rows)) (fun W' hM=>hφ.out _ _ ⟨b,by rw[List.map_cons,List.map_nil,hv],hb,hM⟩)
 refine loose_is (.agg #[pkCl 109 a1,pkCl 110 a2,pkCl 111 a3,pkCl 112 a4,pkCl 113 a5]) (fun W vals hW _=>opOk_shLoad (x:= .tmp 3) (g:=va.heap.size) (cs:= [pkCl 109 a1,pkCl 110 a2,pkCl 111 a3,pkCl 112 a4,pkCl 113 a5]) (by kernel_rfl) rfl (by kernel_rfl) (range_row (hW.rows _ _ _ Ra.out)) hu hd (by kernel_rfl)) ?_;refine loose_had [11] (fun rd _ W' =>∃b,rd= [.map (some b)]∧Vc.heap.size≤b∧ShMap W' b [8]) (by kernel_rfl) (fun W vals hW hkn φ' hφ=> ?_) ?_
 ·simp only[addEnt,knows]at hkn
  try simp only[and_true]at hkn
  obtain⟨W1,q0,q1,b,hv,hb,hm⟩:=hkn.2.2.2.2 (by decide);exact opOk_shPut (m:= .tmp 11) (k:= .const (.int .i64 8)) (x:= .tmp 19) (j:=8) (v:= .agg #[pkCl 109 a1,pkCl 110 a2,pkCl 111 a3,pkCl 112 a4,pkCl 113 a5]) (by kernel_rfl) rfl ((show _=vals 11 by kernel_rfl).trans hv) (by kernel_rfl) (by kernel_rfl) (by decide) hb (q1.maps b [] hb hm) ((show Sh W 8 (.agg #[pkCl 109 a1,pkCl 110 a2,pkCl 111 a3,pkCl 112 a4,pkCl 113 a5])from ShL.rows Sa.out hW.rows)) (fun W' hM=>hφ.out _ _ ⟨b,by rw[List.map_cons,List.map_nil,hv],hb,hM⟩)
 refine loose_is (.agg #[pkCl 109 b1,pkCl 110 b2,pkCl 111 b3,pkCl 112 b4,pkCl 113 b5]) (fun W vals hW _=>opOk_shLoad (x:= .tmp 4) (g:=vb.heap.size) (cs:= [pkCl 109 b1,pkCl 110 b2,pkCl 111 b3,pkCl 112 b4,pkCl 113 b5]) (by kernel_rfl) rfl (by kernel_rfl) (range_row (hW.rows _ _ _ Rb.out)) hu hd (by kernel_rfl)) ?_;refine loose_had [11] (fun rd _ W' =>∃b,rd= [.map (some b)]∧Vc.heap.size≤b∧ShMap W' b [9]) (by kernel_rfl) (fun W vals hW hkn φ' hφ=> ?_) ?_
 ·simp only[addEnt,knows]at hkn
  try simp only[and_true]at hkn
  obtain⟨W1,q0,q1,b,hv,hb,hm⟩:=hkn.2.2.2.2 (by decide);exact opOk_shPut (m:= .tmp 11) (k:= .const (.int .i64 9)) (x:= .tmp 20) (j:=9) (v:= .agg #[pkCl 109 b1,pkCl 110 b2,pkCl 111 b3,pkCl 112 b4,pkCl 113 b5]) (by kernel_rfl) rfl ((show _=vals 11 by kernel_rfl).trans hv) (by kernel_rfl) (by kernel_rfl) (by decide) hb (q1.maps b [] hb hm) ((show Sh W 9 (.agg #[pkCl 109 b1,pkCl 110 b2,pkCl 111 b3,pkCl 112 b4,pkCl 113 b5])from ShL.rows Sb.out hW.rows)) (fun W' hM=>hφ.out _ _ ⟨b,by rw[List.map_cons,List.map_nil,hv],hb,hM⟩)
 refine loose_is (.agg #[pkCl 109 c1,pkCl 110 c2,pkCl 111 c3,pkCl 112 c4,pkCl 113 c5]) (fun W vals hW _=>opOk_shLoad (x:= .tmp 5) (g:=vc.heap.size) (cs:= [pkCl 109 c1,pkCl 110 c2,pkCl 111 c3,pkCl 112 c4,pkCl 113 c5]) (by kernel_rfl) rfl (by kernel_rfl) (range_row (hW.rows _ _ _ Rc.out)) hu hd (by kernel_rfl)) ?_;refine loose_had [11] (fun rd _ W' =>∃b,rd= [.map (some b)]∧Vc.heap.size≤b∧ShMap W' b [10]) (by kernel_rfl) (fun W vals hW hkn φ' hφ=> ?_) ?_
 ·simp only[addEnt,knows]at hkn
  try simp only[and_true]at hkn
  obtain⟨W1,q0,q1,b,hv,hb,hm⟩:=hkn.2.2.2.2 (by decide);exact opOk_shPut (m:= .tmp 11) (k:= .const (.int .i64 10)) (x:= .tmp 21) (j:=10) (v:= .agg #[pkCl 109 c1,pkCl 110 c2,pkCl 111 c3,pkCl 112 c4,pkCl 113 c5]) (by kernel_rfl) rfl ((show _=vals 11 by kernel_rfl).trans hv) (by kernel_rfl) (by kernel_rfl) (by decide) hb (q1.maps b [] hb hm) ((show Sh W 10 (.agg #[pkCl 109 c1,pkCl 110 c2,pkCl 111 c3,pkCl 112 c4,pkCl 113 c5])from ShL.rows Sc.out hW.rows)) (fun W' hM=>hφ.out _ _ ⟨b,by rw[List.map_cons,List.map_nil,hv],hb,hM⟩)
 refine loose_has (fun v W' =>ShAns W' 0 v) (fun W vals hW hkn φ' hφ=>opOk_shCall (f:=88) (args:= #[.int .i64 0]) (by kernel_rfl) (by kernel_rfl) ((pkAnswer_any W 0).mono (by rintro e w2 ⟨v,rfl,hv,hk⟩;exact⟨v,rfl,hk,hφ.out _ _ hv⟩))) ?_;refine loose_had [11] (fun rd _ W' =>∃b,rd= [.map (some b)]∧Vc.heap.size≤b∧ShMap W' b [11]) (by kernel_rfl) (fun W vals hW hkn φ' hφ=> ?_) ?_
 ·simp only[addEnt,knows]at hkn
  try simp only[and_true]at hkn
  obtain⟨W1,q0,q1,b,hv,hb,hm⟩:=hkn.2.2.2.2.2 (by decide);exact opOk_shPut (m:= .tmp 11) (k:= .const (.int .i64 11)) (x:= .tmp 22) (j:=11) (v:=vals 22) (by kernel_rfl) rfl ((show _=vals 11 by kernel_rfl).trans hv) (by kernel_rfl) (by kernel_rfl) (by decide) hb (q1.maps b [] hb hm) ((show Sh W 11 (vals 22)from by obtain⟨W2,p0,p1,hs⟩:=hkn.1 (by decide);exact(sh_ans hs (.inr ⟨by decide,rfl⟩)).rows p1.rows)) (fun W' hM=>hφ.out _ _ ⟨b,by rw[List.map_cons,List.map_nil,hv],hb,hM⟩)
 refine loose_is (.agg #[pkFn 48,pkFn 49,.nilFunc,.nilFunc,pkFn 50]) (fun W vals hW _=>opOk_shLoad (x:= .tmp 1) (g:=w.heap.size) (cs:= [pkFn 48,pkFn 49,.nilFunc,.nilFunc,pkFn 50]) (by kernel_rfl) rfl (by kernel_rfl) (range_row (hW.rows _ _ _ RN.out)) hu hd (by kernel_rfl)) ?_;refine loose_had [11] (fun rd _ W' =>∃b,rd= [.map (some b)]∧Vc.heap.size≤b∧ShMap W' b [12]) (by kernel_rfl) (fun W vals hW hkn φ' hφ=> ?_) ?_
 ·simp only[addEnt,knows]at hkn
  try simp only[and_true]at hkn
  obtain⟨W1,q0,q1,b,hv,hb,hm⟩:=hkn.2.2.2.2.2 (by decide);exact opOk_shPut (m:= .tmp 11) (k:= .const (.int .i64 12)) (x:= .tmp 23) (j:=12) (v:=shNone) (by kernel_rfl) rfl ((show _=vals 11 by kernel_rfl).trans hv) (by kernel_rfl) (by kernel_rfl) (by decide) hb (q1.maps b [] hb hm) (rfl) (fun W' hM=>hφ.out _ _ ⟨b,by rw[List.map_cons,List.map_nil,hv],hb,hM⟩)
 refine loose_is (.agg #[pkFn 48,pkFn 49,.nilFunc,.nilFunc,pkFn 50]) (fun W vals hW _=>opOk_shLoad (x:= .tmp 1) (g:=w.heap.size) (cs:= [pkFn 48,pkFn 49,.nilFunc,.nilFunc,pkFn 50]) (by kernel_rfl) rfl (by kernel_rfl) (range_row (hW.rows _ _ _ RN.out)) hu hd (by kernel_rfl)) ?_;refine loose_had [11] (fun rd _ W' =>∃b,rd= [.map (some b)]∧Vc.heap.size≤b∧ShMap W' b [13]) (by kernel_rfl) (fun W vals hW hkn φ' hφ=> ?_) ?_
 ·simp only[addEnt,knows]at hkn
  try simp only[and_true]at hkn
  obtain⟨W1,q0,q1,b,hv,hb,hm⟩:=hkn.2.2.2.2.2 (by decide);exact opOk_shPut (m:= .tmp 11) (k:= .const (.int .i64 13)) (x:= .tmp 24) (j:=13) (v:=shNone) (by kernel_rfl) rfl ((show _=vals 11 by kernel_rfl).trans hv) (by kernel_rfl) (by kernel_rfl) (by decide) hb (q1.maps b [] hb hm) (rfl) (fun W' hM=>hφ.out _ _ ⟨b,by rw[List.map_cons,List.map_nil,hv],hb,hM⟩)
 refine loose_is (.agg #[pkFn 48,pkFn 49,.nilFunc,.nilFunc,pkFn 50]) (fun W vals hW _=>opOk_shLoad (x:= .tmp 1) (g:=w.heap.size) (cs:= [pkFn 48,pkFn 49,.nilFunc,.nilFunc,pkFn 50]) (by kernel_rfl) rfl (by kernel_rfl) (range_row (hW.rows _ _ _ RN.out)) hu hd (by kernel_rfl)) ?_;refine loose_had [11] (fun rd _ W' =>∃b,rd= [.map (some b)]∧Vc.heap.size≤b∧ShMap W' b [14]) (by kernel_rfl) (fun W vals hW hkn φ' hφ=> ?_) ?_
 ·simp only[addEnt,knows]at hkn
  try simp only[and_true]at hkn
  obtain⟨W1,q0,q1,b,hv,hb,hm⟩:=hkn.2.2.2.2.2 (by decide);exact opOk_shPut (m:= .tmp 11) (k:= .const (.int .i64 14)) (x:= .tmp 25) (j:=14) (v:=shNone) (by kernel_rfl) rfl ((show _=vals 11 by kernel_rfl).trans hv) (by kernel_rfl) (by kernel_rfl) (by decide) hb (q1.maps b [] hb hm) (rfl) (fun W' hM=>hφ.out _ _ ⟨b,by rw[List.map_cons,List.map_nil,hv],hb,hM⟩)
 refine loose_nil (fun W vals hW hkn=> ?_);simp only[addEnt,knowsAll,List.map_cons,List.map_nil]at hkn
 try simp only[and_true]at hkn
 obtain⟨i14,i13,i12,i11,_,i10,i9,i8,i7,_,i6,_,i5,_,i4,_,i3,i2,i1,⟨_,_,q1,b0,hv,hb0,_⟩⟩:=hkn;have tk:∀(b:Nat) (S:List Nat) (W0:World),RelS Vc.heap.size W0 W→ [vals 11]= [Value.map (some b)]→Vc.heap.size≤b→ShMap W0 b S→ShMap W b0 S:=fun b S W0 hr e hb hm=>by
  rw[hv]at e
  iterate 3
   injection e with e
  subst e;exact hr.maps _ _ hb hm
 have j1:ShMap W b0 [1]:=by
  obtain⟨_,W0,_,q,b,e,hb,hm⟩:=i1;exact tk b [1] W0 q e hb hm
 have j2:ShMap W b0 [2]:=by
  obtain⟨_,W0,_,q,b,e,hb,hm⟩:=i2;exact tk b [2] W0 q e hb hm
 have j3:ShMap W b0 [3]:=by
  obtain⟨_,W0,_,q,b,e,hb,hm⟩:=i3;exact tk b [3] W0 q e hb hm
 have j4:ShMap W b0 [4]:=by
  obtain⟨_,W0,_,q,b,e,hb,hm⟩:=i4;exact tk b [4] W0 q e hb hm
 have j5:ShMap W b0 [5]:=by
  obtain⟨_,W0,_,q,b,e,hb,hm⟩:=i5;exact tk b [5] W0 q e hb hm
 have j6:ShMap W b0 [6]:=by
  obtain⟨_,W0,_,q,b,e,hb,hm⟩:=i6;exact tk b [6] W0 q e hb hm
 have j7:ShMap W b0 [7]:=by
  obtain⟨_,W0,_,q,b,e,hb,hm⟩:=i7;exact tk b [7] W0 q e hb hm
 have j8:ShMap W b0 [8]:=by
  obtain⟨_,W0,_,q,b,e,hb,hm⟩:=i8;exact tk b [8] W0 q e hb hm
 have j9:ShMap W b0 [9]:=by
  obtain⟨_,W0,_,q,b,e,hb,hm⟩:=i9;exact tk b [9] W0 q e hb hm
 have j10:ShMap W b0 [10]:=by
  obtain⟨_,W0,_,q,b,e,hb,hm⟩:=i10;exact tk b [10] W0 q e hb hm
 have j11:ShMap W b0 [11]:=by
  obtain⟨_,W0,_,q,b,e,hb,hm⟩:=i11;exact tk b [11] W0 q e hb hm
 have j12:ShMap W b0 [12]:=by
  obtain⟨_,W0,_,q,b,e,hb,hm⟩:=i12;exact tk b [12] W0 q e hb hm
 have j13:ShMap W b0 [13]:=by
  obtain⟨_,W0,_,q,b,e,hb,hm⟩:=i13;exact tk b [13] W0 q e hb hm
 have j14:ShMap W b0 [14]:=by
  obtain⟨_,W0,_,q,b,e,hb,hm⟩:=i14;exact tk b [14] W0 q e hb hm
 have HM:=zh (show ShAll W b0 from(j1.join (j2.join (j3.join (j4.join (j5.join (j6.join (j7.join (j8.join (j9.join (j10.join (j11.join (j12.join (j13.join j14))))))))))))));have HKW:=zh (HK.out.then_ hW.keeps);simp only[addEnt,fill,Act.put,zsa,zsc,zsz];rw[hv];clear tk hv hW q1 hb0 j1 i1 j2 i2 j3 i3 j4 i4 j5 i5 j6 i6 j7 i7 j8 i8 j9 i9 j10 i10 j11 i11 j12 i12 j13 i13 j14 i14
 go_wp2_with fail
 go_ret;exact⟨b0,rfl,HM.out,HKW.out⟩
end Go.Proofs.YtahbikfbjenfpaaGreatDoor
