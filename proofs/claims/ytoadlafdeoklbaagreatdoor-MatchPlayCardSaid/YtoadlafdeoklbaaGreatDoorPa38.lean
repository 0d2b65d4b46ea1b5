/- Law 14: two books. Law 14, plain: of one entry alone. append of one element to a list of any length that an argument may have. -/
import Derived.Test.YtoadlafdeoklbaaGreatDoorPa30
import Derived.Test.YtoadlafdeoklbaaGreatDoorPa7

namespace Go.Proofs.YtoadlafdeoklbaaGreatDoor
open Go.RowKit Go.Maps Go.Shelf

/-- Two books that were made since a world, apart from each other. -/
def Bk2 (w W:World)(d1:Nat)(L1:List Sb)(d2:Nat)(L2:List Sb):Prop:=∃X1 X2,Bk w.heap.size W d1 L1 X1∧Bk w.heap.size W d2 L2 X2∧(∀x∈X1,x∉X2)∧Keeps w W []
section
variable {w W W' :World} {d1 d2:Nat} {L1 L2:List Sb}
theorem Bk2.swap (h:Bk2 w W d1 L1 d2 L2):Bk2 w W d2 L2 d1 L1:=by
 obtain⟨X1,X2,h1,h2,h3,h4⟩:=h;exact⟨X2,X1,h2,h1,(fun x hx hy=>h3 x hy hx),h4⟩
theorem Bk2.k (h:Bk2 w W d1 L1 d2 L2):Keeps w W []:=by
 obtain⟨_,_,_,_,_,h4⟩:=h;exact h4
theorem Bk2.one (h:Bk2 w W d1 L1 d2 L2):BkIn w W d1 L1:=by
 obtain⟨X1,_,h1,_,_,h4⟩:=h;exact⟨X1,h1,h4⟩
theorem Bk2.two (h:Bk2 w W d1 L1 d2 L2):BkIn w W d2 L2:=h.swap.one
theorem Bk2.keeps (h:Bk2 w W d1 L1 d2 L2)(hk:Keeps W W' []):Bk2 w W' d1 L1 d2 L2:=by
 obtain⟨X1,X2,h1,h2,h3,h4⟩:=h;exact⟨X1,X2,h1.keeps hk,h2.keeps hk,h3,h4.then_ hk⟩
theorem Bk2.go {X1 X2 X' :List Nat}{L' :List Sb}(h1:Bk w.heap.size W d1 L1 X1)(h2:Bk w.heap.size W d2 L2 X2)(h3:∀x∈X1,x∉X2)(h4:Keeps w W [])(hg:BkGo w.heap.size W W' d1 L' X1 X'):Bk2 w W' d1 L' d2 L2:=
 ⟨X',X2,hg.bk,h2.keep hg.k (fun x hx hy=>h3 x hy hx),(fun x hx hy=>by
  rcases hg.x x hx with h | h
  ·exact h3 x h hy
  ·have:=(h2.base x hy).2
   omega),h4.trans hg.k fun y hy hlt=>by have:=(h1.base y hy).1;omega⟩
theorem mtNew2_in (h:BkIn w W d1 L1):Calls Tryz.prog 11 #[] W fun e w' =>∃d,e= .returned (ptr0 d)∧Bk2 w w' d1 L1 d []∧Keeps W w' []:=by
 obtain⟨X1,h1,h2⟩:=h;refine(mtNew_any W w.heap.size h2.size).mono ?_;rintro e w' ⟨d,X,h3,h4,h5,h6⟩;exact⟨d,h3,⟨X1,X,h1.keeps h5,h4,(fun x hx hy=>by
  have:=(h1.base x hx).2;have:=h6 x hy;omega),h2.then_ h5⟩,h5⟩
theorem Bk2.set (h:Bk2 w W d1 L1 d2 L2)(hm:MaxL w)(s:Sb)(hs:s.f.length≤50000)(hc:s.c.length≤50000):Calls Tryz.prog 12 #[ptr0 d1,sbV s] W fun e w' =>e= .returned (.tuple #[.bool (mtSetA L1 s).2.1,.int .i64 (mtSetA L1 s).2.2])∧Bk2 w w' d1 (mtSetA L1 s).1 d2 L2∧Else W w' :=by
 obtain⟨X1,X2,h1,h2,h3,h4⟩:=h;exact(mtSet_any w.heap.size W d1 L1 X1 h1 (hm.keeps h4) s hs (by omega)).mono fun e w' ⟨g1,X',g2⟩=>⟨g1,Bk2.go h1 h2 h3 h4 g2,Else.of h1 g2⟩
theorem Bk2.drop (h:Bk2 w W d1 L1 d2 L2)(hm:MaxL w)(f c:List UInt8)(hs:f.length≤50000)(hc:c.length≤50000):Calls Tryz.prog 19 #[ptr0 d1,.string ⟨f.toArray⟩,.string ⟨c.toArray⟩] W fun e w' =>e= .returned (.tuple #[.bool (mtDropA L1 f c).2.1,.int .i64 (mtDropA L1 f c).2.2])∧Bk2 w w' d1 (mtDropA L1 f c).1 d2 L2∧Else W w' :=by
 obtain⟨X1,X2,h1,h2,h3,h4⟩:=h;exact(mtDropE_any w.heap.size W d1 L1 X1 h1 (hm.keeps h4) f c hs (by omega)).mono fun e w' ⟨g1,X',g2⟩=>⟨g1,Bk2.go h1 h2 h3 h4 g2,Else.of h1 g2⟩
end
/-- A list of one's own stays. -/
theorem Else.own {α:Type}{f:α→List Value}{W W' :World}{B:Nat}{e:TypeId}{k:Nat}{v:Value}{l:List α}(h:Else W W')(ho:OwnN W B e k f v l)(h1:e≠64)(h2:e≠75):OwnN W' B e k f v l:=by
 obtain⟨hn,hv⟩:=ho;refine⟨hn, ?_⟩
 rcases hv with hv | ⟨g,cap,cur,hv,hb,hg,hr⟩
 ·exact .inl hv
 ·exact .inr ⟨g,cap,cur,hv,hb,h g e cur hg h1 h2,hr⟩
end Go.Proofs.YtoadlafdeoklbaaGreatDoor

namespace Go.Proofs.YtoadlafdeoklbaaGreatDoor
open Go

/-- An entry that may be set. -/
def mtVal (s:Sb):Bool:=tFilter s.f && mtSubOk s
/-- All of them set, one behind the other. -/
def mtAllA (L l:List Sb):List Sb:=l.foldl (fun L s=>(mtSetA L s).1) L
theorem setA_yes {L:List Sb}{s:Sb}(hv:mtVal s=true)(hl:L.length < 4096):mtSetA L s=(mtSet L s, !mtHas L s.f s.c,0):=by
 unfold mtVal at hv;rw[Bool.and_eq_true]at hv;exact setA_ok hv.1 hv.2 hl
theorem setA_no {s:Sb}(hv:mtVal s=false):∃e:Int,e≠0∧∀L,mtSetA L s=(L,false,e):=by
 unfold mtVal at hv
 by_cases h:tFilter s.f=false
 ·exact⟨230,by omega,fun L=>by unfold mtSetA;rw[if_pos h]⟩
 ·have h2:tFilter s.f=true:=by simpa using h
  rw[h2,Bool.true_and]at hv;exact⟨2,by omega,fun L=>by unfold mtSetA;rw[if_neg h,if_pos hv]⟩
theorem setA_len {L:List Sb}(hL:MtOk L)(s:Sb):(mtSetA L s).1.length≤L.length+1:=by
 unfold mtSetA
 split
 ·simp
 ·split
  ·simp
  ·split
   ·simp
   ·show(mtSet L s).length≤_
    rw[hL.up.set_len]
    split <;> omega
theorem allA_ok {L:List Sb}(hL:MtOk L):∀m:List Sb,MtOk (mtAllA L m)∧(mtAllA L m).length≤L.length+m.length
 | []=>⟨hL,by simp[mtAllA]⟩
 | s::m=>by
  have h:=allA_ok (hL.setA s) m;have h2:=setA_len hL s;refine⟨h.1,Nat.le_trans h.2 ?_⟩;simp only[List.length_cons];omega
theorem allA_snoc {l:List Sb}{i:Nat}(hi:i < l.length):mtAllA [] (l.take (i+1))=(mtSetA (mtAllA [] (l.take i)) l[i]).1:=by
 unfold mtAllA;rw[List.take_succ_eq_append_getElem hi,List.foldl_append];rfl
def mtSame (s x:Sb):Bool:=mtVal x && (x.f==s.f && x.c==s.c)
theorem allA_keep {s:Sb}:∀{m L:List Sb},MtOk L→L.length+m.length < 4096→s∈L→(m.all fun x=> !mtSame s x)=true→s∈mtAllA L m
 | [],_,_,_,h,_=>h
 | x::m,L,hL,hl,h,ha=>by
  rw[List.all_cons,Bool.and_eq_true]at ha;rw[List.length_cons]at hl;refine allA_keep (L:=(mtSetA L x).1) (hL.setA x) (by have:=setA_len hL x;omega) ?_ ha.2
  cases hv:mtVal x with
  | false=>
   obtain⟨e,_,he⟩:=setA_no hv;rw[he];exact h
  | true=>
   rw[setA_yes hv (by omega)];show s∈mtSet L x;rw[mem_mtSet];refine .inr ⟨h,fun⟨e1,e2⟩=> ?_⟩;have:=ha.1;unfold mtSame at this;rw[hv,e1,e2]at this;simp at this
theorem alone_in {l:List Sb}(hle:l.length≤20){i:Nat}(hi:i < l.length)(hv:mtVal l[i]=true)(hl:((l.drop (i+1)).all fun x=> !mtSame l[i] x)=true):l[i]∈mtAllA [] l:=by
 have h:=allA_ok MtOk.nil (l.take i);have hlt:(l.take i).length≤20:=by rw[List.length_take];omega
 have e:mtAllA [] l=mtAllA (mtSetA (mtAllA [] (l.take i)) l[i]).1 (l.drop (i+1)):=by
  rw[←allA_snoc hi];unfold mtAllA;rw[←List.foldl_append,List.take_append_drop]
 rw[e];have h3:=setA_len h.1 l[i];simp only[List.length_nil]at h;refine allA_keep (L:=(mtSetA (mtAllA [] (l.take i)) l[i]).1) (h.1.setA _) (by rw[List.length_drop];omega) ?_ hl;rw[setA_yes hv (by omega)];show l[i]∈mtSet _ _;rw[mem_mtSet];exact .inl rfl
theorem told_one (s:Sb)(n:List UInt8):mtTold [s] n=if tMeets s.f n=true then [(s.c,s.q)]else []:=by
 unfold mtTold mtMet;rw[List.filter_cons]
 split <;> rfl
theorem told_none (n:List UInt8):mtTold [] n= []:=rfl
theorem told_more {L:List Sb}{s:Sb}{n:List UInt8}(hs:s∈L)(hm:tMeets s.f n=true):∃q,(s.c,q)∈mtTold L n∧s.q≤q:=by
 have hmm:s∈mtMet L n:=List.mem_filter.2 ⟨hs,hm⟩;obtain⟨q,hq⟩:=max_there (M:=mtMet L n) (c:=s.c) ⟨s,hmm,rfl⟩;exact⟨q,((mtTold_is L n).is s.c q).2 hq,hq.2 s hmm rfl⟩
/-- Is what one tells told by all? -/
def foundIn (T:List (List UInt8×Int)):List (List UInt8×Int)→Bool
 | []=>true
 | t::_=>T.any fun x=>x.1==t.1 && decide (t.2≤x.2)
theorem found_one {L:List Sb}{s:Sb}{n:List UInt8}(hs:s∈L):foundIn (mtTold L n) (mtTold [s] n)=true:=by
 rw[told_one]
 split
 ·rename_i hm
  obtain⟨q,h1,h2⟩:=told_more hs hm;exact List.any_eq_true.2 ⟨_,h1,by simp[h2]⟩
 ·rfl
end Go.Proofs.YtoadlafdeoklbaaGreatDoor

namespace Go.Proofs.YtoadlafdeoklbaaGreatDoor
open Go.RowKit

/-- A slice type, its elements, their bytes. -/
structure ElemB (P:Program)(t e:TypeId)(k bytes:Nat):Prop where
 out:∃(i:TypeInfo) (z:Value),P.underlying t=some (.slice e)∧P.info? e=some i∧i.zero=some z∧i.size=k∧i.bytes=bytes∧bytes≤100000∧z.cells.size=k
theorem elemB_of {P:Program}{t e:TypeId}{k bytes:Nat}{z:Value}(ht:P.underlying t=some (.slice e))(hi:(P.info? e).map (fun i=>(i.zero,i.size,i.bytes))=some (some z,k,bytes))(hb:bytes≤100000)(hz:z.cells.size=k):ElemB P t e k bytes:=by
 obtain⟨i,h1,h2,h3,h4⟩:=info_parts hi;exact⟨i,z,ht,h1,h2,h3,h4,hb,hz⟩
theorem nextcap_one {n:Nat}(h:256≤n):Builtin.nextslicecap (n+1) n=n+(n+768) / 4:=by
 unfold Builtin.nextslicecap;rw[if_neg (by omega),if_neg (by omega)];unfold Builtin.growBy;rw[if_neg (by omega)];unfold Builtin.growBy;rw[if_pos (by omega)]
section
variable {α:Type} {k bytes:Nat} {f:α→List Value} {w w' :World} {e t:TypeId} {A:Option Addr} {B:Nat}
theorem ElemB.n {P:Program}(T:ElemB P t e k bytes):ElemN P t e k:=by
 obtain⟨i,z,h1,h2,h3,h4,h5,h6,h7⟩:=T.out;exact⟨i,z,bytes,h1,h2,h3,h4,h5,h6,h7⟩
theorem run_append_one {P:Program}(T:ElemB P t e k bytes)(E:Enc k f)(v:Value)(A:Option Addr)(c:Nat)(l1:List α)(x:α)(ty:TypeId)(hown:OwnN w B e k f v l1)(hb:Lies w w.heap.size A (f x))(h63:l1.length+1≤9223372036854775807)(hcap:(l1.length+(l1.length+768) / 4)*bytes≤281474976710656)(hbase:B≤w.heap.size):
  ∃A' c' w',(Builtin.append_ #[t,t] ty #[v,.slice A 1 c]).run P w= .ok (.slice A' (l1++ [x]).length c') w' ∧OwnN w' B e k f (.slice A' (l1++ [x]).length c') (l1++ [x])∧Keeps w w' v.ownBlock.toList∧
   ((Value.slice A' (l1++ [x]).length c').ownBlock=v.ownBlock∨(Value.slice A' (l1++ [x]).length c').ownBlock=some w.heap.size):=by
 by_cases hs:l1.length+1≤1000000
 ·exact run_append_N T.n E v A c l1 [x] ty hown (by simpa using hb) (by simpa using hs) hbase
 obtain⟨i0,z,ht,hi,hz0,rfl,rfl,hz3,hz4⟩:=T.out;have hk:=E.pos;obtain⟨b,o,rfl,_,hcell⟩:=hb (by rw[E.len];exact hk);have hnews:∀j u,(f x)[j]? =some u→w.cell? ((⟨b,o,none⟩:Addr).add j)=some u:=fun j u hu=>by
  rw[←hcell j u hu];unfold Addr.add
  split
  ·rename_i h0;subst h0;rfl
  ·rfl
 have hl:(f x).length=1*i0.size:=by rw[E.len,Nat.one_mul]
 have hone:∀u∈f x,u.oneCell' =true:=E.one x;have hxl:((l1++ [x]).flatMap f).length=(l1.length+1)*i0.size:=by rw[flat_length E];simp
 have hfl:(l1++ [x]).flatMap f=l1.flatMap f++f x:=by rw[List.flatMap_append,List.flatMap_cons,List.flatMap_nil,List.append_nil]
 have hll:(l1++ [x]).length=l1.length+1:=by simp
 rw[hll]
 rcases hown.2 with⟨rfl,h0⟩ | ⟨g,cap,cur,rfl,hbg,hg,hnc,hcm,hcs,htake⟩
 ·omega
 by_cases hroom:l1.length+1≤cap
 ·have hfit:l1.length*i0.size+(f x).length≤cur.size:=by rw[hl,hcs,←Nat.add_mul];exact Nat.mul_le_mul_right _ hroom
  have hr:=run_append_room (P:=P) w t ty e i0 ht hi g l1.length cap cur hg ⟨b,o,none⟩ 1 c (f x) hl hnews hone hroom hfit;refine⟨_,_,_,hr,⟨hxl.trans (by rw[hll]),.inr ⟨g,cap,_,by rw[hll],hbg,setRow_heap w g cur _ e _ hg,by rw[hll];exact hroom,hcm, ?_, ?_⟩⟩,⟨rfl,rfl,rfl,by simp,fun j _ hj=>setRow_other w g j _ (fun e=>hj (by simp[Value.ownBlock,e]))⟩,.inl rfl⟩
  ·simp only[List.size_toArray,List.length_append,List.length_take,List.length_drop,Array.length_toList]
   omega
  ·have hx2:(l1.flatMap f++f x).length=(l1++ [x]).length*i0.size:=by rw[←hfl,hxl,hll]
   rw[htake,hfl,←hx2];exact List.take_left
 ·have hcn:cap=l1.length:=by omega
  subst hcn;have holds:∀j u,(l1.flatMap f)[j]? =some u→w.cell? ((⟨g,0,none⟩:Addr).add j)=some u:=hown.cells (g:=g) rfl;have hr:=run_append_grow (P:=P) w t ty e i0 z ht hi hz0 ⟨g,0,none⟩ l1.length l1.length (l1.flatMap f) hown.1 holds ⟨b,o,none⟩ 1 c (f x) hl hnews (by omega) (by omega) (by rw[nextcap_one (by omega)];exact hcap);have hge:=grownCap_ge w (l1.length+1) l1.length e;have hcm2:grownCap w (l1.length+1) l1.length e≤maxLen:=grownCap_le_maxLen w (l1.length+1) l1.length e (by unfold maxLen;omega);refine⟨_,_,_,hr,⟨hxl.trans (by rw[hll]),.inr ⟨w.heap.size,_,_,by rw[hll],hbase,heap_alloc_new w.drew _,by rw[hll];exact hge,hcm2, ?_, ?_⟩⟩,⟨rfl,rfl,rfl,by simp,fun j hj _=>heap_alloc_old w.drew _ hj⟩,.inr rfl⟩
  ·simp only[Array.size_append,List.size_toArray,size_zeroCells,hz4,hown.1,hl,←Nat.add_mul]
   congr 1
   omega
  ·have hx2:(l1.flatMap f++f x).length=(l1++ [x]).length*i0.size:=by rw[←hfl,hxl,hll]
   simp only[Array.toList_append,List.append_assoc];rw[←List.append_assoc,hfl,←hx2];exact List.take_left
theorem wpList_append_one {P:Program}{ops:Array Oper}{rest:List Oper}{o:Oper}{a:Act}{Q:Exit→Act→World→Prop}(T:ElemB P t e k bytes)(E:Enc k f)(hgd:o.guard=none)(s x:Operand)
  (ho:o.op= .call {callee:= .builtin .append,args:= #[s,x],argTypes:= #[t,t]})
  (B:Nat) (v:Value) (A:Option Addr) (c:Nat) (l1:List α) (y:α) (hs:a.eval s=v) (hx:a.eval x= .slice A 1 c) (hown:OwnN w B e k f v l1) (hb:Lies w w.heap.size A (f y)) (h63:l1.length+1≤9223372036854775807) (hcap:(l1.length+(l1.length+768) / 4)*bytes≤281474976710656) (hbase:B≤w.heap.size)
  (h:∀A c w' l,Hid (l=l1++ [y])→OwnN w' B e k f (.slice A l.length c) l→Keeps w w' v.ownBlock.toList→((Value.slice A l.length c).ownBlock=v.ownBlock∨(Value.slice A l.length c).ownBlock=some w.heap.size)→
   wpList P ops Q rest (a.put o.dst (.slice A l.length c)) w'):wpList P ops Q (o::rest) a w:=by
 refine wpList_plain hgd fun K hK=> ?_
 obtain⟨A,c,w',hrun,h2,h3,h4⟩:=run_append_one T E v A c l1 y o.type hown hb h63 hcap hbase;unfold Oper.wp execOp;simp only[ho,resolve,invoke,builtin,Sem.run_bind,Sem.run_pure,Result.andThen_ok,List.map_toArray,List.map_cons,List.map_nil,hs,hx,hrun];exact hK _ _ (h A c w' _ (zh rfl) h2 h3 h4)
end
end Go.Proofs.YtoadlafdeoklbaaGreatDoor
