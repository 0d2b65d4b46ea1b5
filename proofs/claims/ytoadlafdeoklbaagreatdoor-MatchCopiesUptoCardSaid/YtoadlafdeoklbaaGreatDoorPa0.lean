/- Words for memory: a block that is known whole, a slice that reads as a list, what a call keeps. What an argument reads as: the same behind a call that leaves its places alone. -/
import Derived.WalkKit
import Derived.WalkSpells
import Derived.WalkLawsBesides
import Derived.Lib.Hide
import Derived.Maps.AppendAt
import Derived.Deep.AppendLies
import Derived.Deep.Draws
import Derived.Deep.QuietTactic
import Derived.BigQuiet
import Derived.OneCell
import Derived.ChangeReads
import Derived.ChangeOld
import Derived.ChangeSame
import Derived.Test.YtoadlafdeoklbaaGreatDoorPz

namespace Go.Proofs.YtoadlafdeoklbaaGreatDoor
open Go.RowKit

/-- Block g is just the cells cs of element type t, none of them frozen. -/
def Row (w:World)(g:Nat)(t:TypeId)(cs:Array Value):Prop:=w.heap[g]? =some (.cells cs t (0,0))

/-- What a call leaves alone: all blocks but those of S. -/
structure Keeps (w w' :World)(S:List Nat):Prop where
 os:w'.os=w.os
 tape:w'.tape=w.tape
 output:w'.output=w.output
 size:w.heap.size≤w'.heap.size
 block:∀k,k < w.heap.size→k∉S→w'.heap[k]? =w.heap[k]?

section
variable {w w' w'' :World} {S T:List Nat}
theorem Keeps.refl (w:World)(S:List Nat):Keeps w w S:=⟨rfl,rfl,rfl,Nat.le_refl _,fun _ _ _=>rfl⟩
theorem Keeps.trans (h:Keeps w w' S)(k:Keeps w' w'' T)(hT:∀x,x∈T→x < w.heap.size→x∈S):Keeps w w'' S:=
 ⟨k.os.trans h.os,k.tape.trans h.tape,k.output.trans h.output,Nat.le_trans h.size k.size,
 fun i hi hs=>(k.block i (Nat.lt_of_lt_of_le hi h.size) (fun hm=>hs (hT i hm hi))).trans (h.block i hi hs)⟩
theorem Keeps.weaken (h:Keeps w w' S)(hT:∀x,x∈S→x < w.heap.size→x∈T):Keeps w w' T:=
 ⟨h.os,h.tape,h.output,h.size,fun k hk ht=>h.block k hk (fun hm=>ht (hT k hm hk))⟩
theorem Keeps.drew (w:World):Keeps w w.drew []:=⟨rfl,rfl,rfl,Nat.le_refl _,fun _ _ _=>rfl⟩
theorem Keeps.alloc (w:World)(o:Obj):Keeps w (w.alloc o) []:=⟨rfl,rfl,rfl,by simp,fun k hk _=>Below.heap_alloc _ _ _ hk⟩
theorem Keeps.setCell (w:World)(p:Addr)(u:Value):Keeps w (w.setCell p u) [p.block]:=
 ⟨rfl,rfl,rfl,by simp[World.setCell],fun k _ hs=>Below.heap_setCell _ _ _ _ (by simpa using hs)⟩
theorem Keeps.of_grown {row:Option Nat}(h:w.grownBy w' row):Keeps w w' row.toList:=
 ⟨h.os,h.tape,h.output,h.size,fun k hk hs=>h.block k hk (fun e=>hs (by rw[←e];simp))⟩
theorem Keeps.of_below (h:Below w.heap.size w w'):Keeps w w' []:=⟨h.os,h.tape,h.output,h.size,fun k hk _=>h.block k hk⟩
theorem Keeps.below {B:Nat}(h:Keeps w w' S)(hB:B≤w.heap.size)(hS:∀x,x∈S→B≤x):Below B w w' :=
 ⟨h.os,h.tape,h.output,h.size,fun k hk=>h.block k (by omega) (fun hm=>by have:=hS k hm;omega)⟩
theorem Keeps.cell (h:Keeps w w' S){p:Addr}(hp:p.block < w.heap.size)(hs:p.block∉S):w'.cell? p=w.cell? p:=World.cell?_of_block (w:=w) (h.block p.block hp hs)
end

section
variable {w w' :World} {g:Nat} {t:TypeId} {cs:Array Value} {S:List Nat}
theorem Row.lt (h:Row w g t cs):g < w.heap.size:=by
 rcases Nat.lt_or_ge g w.heap.size with hlt | hge
 ·exact hlt
 ·unfold Row at h;rw[Array.getElem?_eq_none hge]at h;cases h
theorem Row.cell (h:Row w g t cs)(i:Nat):w.cell? ⟨g,i,none⟩=cs[i]? :=cell_of_row w g i cs t (0,0) h
theorem Row.frozen (h:Row w g t cs)(i:Nat):w.frozen? ⟨g,i,none⟩=false:=by
 unfold Row at h;simp[World.frozen?,h]
theorem Row.new (w:World)(t:TypeId)(cs:Array Value):Row (w.alloc (.cells cs t)) w.heap.size t cs:=heap_alloc_new w _
theorem Row.alloc (h:Row w g t cs)(o:Obj):Row (w.alloc o) g t cs:=(Below.heap_alloc w o g h.lt).trans h
theorem Row.store (h:Row w g t cs)(i:Nat)(u:Value):Row (w.setCell ⟨g,i,none⟩ u) g t (cs.setIfInBounds i u):=by
 unfold Row at h ⊢
 simp[World.setCell,Array.getElem?_modify,h]
theorem Row.keep (h:Row w g t cs)(hk:Keeps w w' S)(hs:g∉S):Row w' g t cs:=(hk.block g h.lt hs).trans h
theorem Row.below {B:Nat}(h:Row w g t cs)(hb:Below B w w')(hg:g < B):Row w' g t cs:=(hb.block g hg).trans h
theorem Row.ne_type {g' :Nat}{t' :TypeId}{cs' :Array Value}(h:Row w g t cs)(h' :Row w g' t' cs')(hne:t≠t'):g≠g' :=by
 rintro rfl;unfold Row at h h';rw[h]at h';injection h' with h'
 injection h' with _ ht
 exact hne ht
end

/-- A byte as a cell holds it. -/
def byteV (b:UInt8):Value:= .int .u8 (b.toNat:Int)

/-- The cells from A on read as xs (one cell each), in a block below B; nothing is asked of A where xs is empty. -/
def Lies (w:World)(B:Nat)(A:Option Addr)(xs:List Value):Prop:=
 0 < xs.length→∃b o,A=some ⟨b,o,none⟩∧b < B∧∀i u,xs[i]? =some u→w.cell? ⟨b,o+i,none⟩=some u

section
variable {w w' :World} {B B' :Nat} {A:Option Addr} {xs:List Value} {S:List Nat}
theorem Lies.mono (h:Lies w B A xs)(hB:B≤B'):Lies w B' A xs:=fun hn=>by
 obtain⟨b,o,e,hb,hc⟩:=h hn;exact⟨b,o,e,by omega,hc⟩
theorem Lies.cells (h:Lies w B A xs)(hk:∀p:Addr,p.block < B→w'.cell? p=w.cell? p):Lies w' B A xs:=fun hn=>by
 obtain⟨b,o,e,hb,hc⟩:=h hn;exact⟨b,o,e,hb,fun i u hu=>(hk ⟨b,o+i,none⟩ hb).trans (hc i u hu)⟩
theorem Lies.below (h:Lies w B A xs)(hb:Below B w w'):Lies w' B A xs:=h.cells fun _ hp=>hb.cell hp
theorem Lies.at_ (h:Lies w B A xs){k:Nat}(hk:k < xs.length):∃b o,A=some ⟨b,o,none⟩∧b < B∧w.cell? ⟨b,o+k,none⟩=some xs[k]:=by
 obtain⟨b,o,e,hb,hc⟩:=h (by omega);exact⟨b,o,e,hb,hc k _ (List.getElem?_eq_getElem hk)⟩
end

section
variable {P:Program} (w:World)
end

section
variable {P:Program} (w:World)
end

end Go.Proofs.YtoadlafdeoklbaaGreatDoor

namespace Go.Proofs.YtoadlafdeoklbaaGreatDoor
open Go.RowKit Go.ChangeShapes Go.WideShapes

section
variable {H:Type} {enc:TypeId×Value→H} {P:Program} {w w' :World} {base:Nat} {sp:Nat→Bool} {held:Bool}

/-- A list of types that holds its types' parts; the elements of its slices take up a cell at least. -/
def closedB (P:Program)(L:List TypeId):Bool:=L.all fun t=>match P.underlying t with
 | some (.pointer e)=>L.contains e
 | some (.slice e)=>L.contains e && decide (0 < P.cellsOf e)
 | some (.struct fs)=>fs.toList.all fun f=>L.contains f.type
 | some (.array _ e)=>L.contains e
 | some (.map _ e)=>L.contains e
 | _=>true
theorem closedB_spec {L:List TypeId}(h:closedB P L=true){t:TypeId}(ht:t∈L):match P.underlying t with
 | some (.pointer e)=>e∈L
 | some (.slice e)=>e∈L∧0 < P.cellsOf e
 | some (.struct fs)=>∀f∈fs.toList,f.type∈L
 | some (.array _ e)=>e∈L
 | some (.map _ e)=>e∈L
 | _=>True:=by
 have h1:=(List.all_eq_true.1 h) t ht
 revert h1
 cases P.underlying t with
 | none=>exact fun _=>trivial
 | some d=>
  cases d <;> simp
  intro h f hf;obtain⟨i,hi,rfl⟩:=Array.mem_iff_getElem.1 hf;exact h i hi

theorem mem_places {a:Addr}{n i:Nat}(h:i < n):∃p∈MemPlace.row a n,p.block=a.block:=⟨_,MemPlace.mem_row.2 ⟨i,h,rfl⟩,rfl⟩

/-- One step: the spare cells are asked for where a place of the datum says so. -/
theorem trodStep_spare {L:List TypeId}(hz:closedB P L=true){r r' :TypeId→List Value→Option (DataW H×List MemPlace)}
  (hr:∀t∈L,∀cs x,r t cs=some x→(∀p∈x.2,sp p.block=true)→r' t cs=some x) {t:TypeId} (hT:t∈L) {cs:List Value} {x:DataW H×List MemPlace}
  (h:DataW.trodStep enc P w base (fun _=>true) true r t cs=some x) (hs:∀p∈x.2,sp p.block=true):DataW.trodStep enc P w base sp true r' t cs=some x:=by
 have hk:=closedB_spec hz hT;unfold DataW.trodStep at h ⊢
 split at h
 all_goals first | exact h | skip
 all_goals rename_i hu;simp only[hu]at hk
 ·obtain⟨y,hy,rfl⟩:=Option.map_eq_some_iff.1 h
  obtain⟨cs',hc,hv⟩:=Option.bind_eq_some_iff.1 hy;have h1:=hr _ hk _ _ hv (fun p hp=>hs p (List.mem_append_right _ hp));simp only[hc,Option.bind_some,h1,Option.map_some]
 ·rename_i e a len cap
  simp only at h ⊢
  split at h
  ·rename_i hc
   rw[if_pos hc];simp only[if_true]at h;obtain⟨elems,he,h2⟩:=Option.bind_eq_some_iff.1 h;obtain⟨rest,hre,rfl⟩:=Option.map_eq_some_iff.1 h2;have hel:elems.length=len:=by simpa using mapM_some_length he
   have hrl:rest.length=cap - len:=by simpa using mapM_some_length hre
   have up:∀i y,y∈elems++rest→(w.cells? base (a.add (i*P.cellsOf e)) (P.cellsOf e)).bind (r e)=some y→(w.cells? base (a.add (i*P.cellsOf e)) (P.cellsOf e)).bind (r' e)=some y:=by
    intro i y hy hv;obtain⟨cs',hc',hy'⟩:=Option.bind_eq_some_iff.1 hv;rw[hc',Option.bind_some];exact hr _ hk.1 _ _ hy' (fun p hp=>hs p (List.mem_append_right _ (List.mem_flatMap.2 ⟨y,hy,hp⟩)))
   have m1:=mapM_carry he (g:=fun i=>(w.cells? base (a.add (i*P.cellsOf e)) (P.cellsOf e)).bind (r' e)) (fun i y _ hy hv=>up i y (List.mem_append_left _ hy) hv);have m2:=mapM_carry hre (g:=fun j=>(w.cells? base (a.add ((len+j)*P.cellsOf e)) (P.cellsOf e)).bind (r' e)) (fun j y _ hy hv=>up (len+j) y (List.mem_append_right _ hy) hv);rw[m1,Option.bind_some]
   by_cases hsp:sp a.block=true
   ·rw[if_pos hsp,m2];rfl
   ·have hzero:cap - len=0:=by
     rcases Nat.eq_zero_or_pos (cap - len)with h0 | h0
     ·exact h0
     ·exfalso
      have hpos:=hk.2;obtain⟨p,hp,hb⟩:=mem_places (a:=a) (n:=(elems.length+rest.length)*P.cellsOf e) (i:=0) (Nat.mul_pos (by omega) hpos);exact hsp (hb▸hs p (List.mem_append_left _ hp))
    have hrn:rest= []:=List.eq_nil_of_length_eq_zero (by omega);subst hrn;rw[if_neg hsp];rfl
  ·cases h
 ·split at h
  ·rename_i hc
   rw[if_pos hc];obtain⟨xs,hx,rfl⟩:=Option.map_eq_some_iff.1 h;exact Option.map_eq_some_iff.2 ⟨xs,mapM_carry hx (fun f y hf hy hv=>hr _ (by first | exact hk f hf | exact hk) _ _ hv (fun p hp=>hs p (List.mem_flatMap.2 ⟨y,hy,hp⟩))),rfl⟩
  ·cases h
 ·split at h
  ·rename_i hc
   rw[if_pos hc];obtain⟨xs,hx,rfl⟩:=Option.map_eq_some_iff.1 h;exact Option.map_eq_some_iff.2 ⟨xs,mapM_carry hx (fun f y hf hy hv=>hr _ (by first | exact hk f hf | exact hk) _ _ hv (fun p hp=>hs p (List.mem_flatMap.2 ⟨y,hy,hp⟩))),rfl⟩
  ·cases h
 ·rename_i k e b
  split at h
  ·rename_i es clock hb
   split at h
   ·rename_i hc
    obtain⟨entries,he,hd⟩:=Option.bind_eq_some_iff.1 h;simp only at hd
    split at hd
    ·rename_i hris
     have hx:=Option.some.inj hd;subst hx;rw[if_pos hc];refine Option.bind_eq_some_iff.2 ⟨entries,mapM_carry he (fun x y _ hy hv=> ?_),by simp[hris]⟩;obtain⟨key,hkey,hv2⟩:=Option.bind_eq_some_iff.1 hv;refine Option.bind_eq_some_iff.2 ⟨key,hkey, ?_⟩
     split at hv2
     ·rename_i hf
      rw[if_pos hf];obtain⟨q,hq,rfl⟩:=Option.map_eq_some_iff.1 hv2;rw[hr _ hk _ _ hq (fun p hp=>hs p (List.mem_cons_of_mem _ (List.mem_flatMap.2 ⟨_,hy,hp⟩)))];rfl
     ·cases hv2
    ·cases hd
   ·cases h
  ·cases h

theorem trod_spare {L:List TypeId}(hz:closedB P L=true):∀(n:Nat) (t:TypeId),t∈L→∀(cs:List Value) (x:DataW H×List MemPlace),
  DataW.trod enc P w base (fun _=>true) true n t cs=some x→(∀p∈x.2,sp p.block=true)→DataW.trod enc P w base sp true n t cs=some x
 | 0,_,_,_,_,h,_=>by simp[DataW.trod]at h
 | n+1,t,hT,cs,x,h,hs=>by
  rw[DataW.trod_step]at h ⊢
  exact trodStep_spare hz (fun t ht cs x=>trod_spare hz n t ht cs x) hT h hs

theorem Trod.kept {L:List TypeId}(hz:closedB P L=true){t:TypeId}(hT:t∈L){v:Value}{d:DataW H}{ps:List MemPlace}(h:DataW.Trod enc P w base (fun _=>true) true t v d ps)
  (hs:∀p∈ps,w.sameAt w' p∧sp p.block=true):DataW.Trod enc P w' base sp true t v d ps:=by
 obtain⟨n,hn⟩:=h;exact⟨n,DataW.trod_carry n _ _ _ (trod_spare hz n _ hT _ _ hn (fun p hp=>(hs p hp).2)) (fun p hp=>(hs p hp).1)⟩
theorem TrodAll.kept {L:List TypeId}(hz:closedB P L=true):∀{ts:List TypeId} {vs:List Value} {ds:List (DataW H)} {ps:List MemPlace},(∀t∈ts,t∈L)→DataW.TrodAll enc P w base (fun _=>true) true ts vs ds ps→
  (∀p∈ps,w.sameAt w' p∧sp p.block=true)→DataW.TrodAll enc P w' base sp true ts vs ds ps
 | [], [], [],_,_,h,_=>h
 | _::_,_::_,_::_,_,hT,⟨p,q,h,hs,e⟩,hp=>⟨p,q,Trod.kept hz (hT _ (by simp)) h (fun x hx=>hp x (e▸List.mem_append_left _ hx)),TrodAll.kept hz (fun t ht=>hT t (by simp[ht])) hs (fun x hx=>hp x (e▸List.mem_append_right _ hx)),e⟩

theorem Keeps.sameAt (h:Keeps w w' []){p:MemPlace}(hp:p.block < w.heap.size):w.sameAt w' p:=by
 cases p with
 | cell b off=>exact h.cell (p:=⟨b,off,none⟩) hp (by simp)
 | map b=>exact h.block b hp (by simp)
end

section
variable {H:Type} {enc:TypeId×Value→H} {P:Program}
/-- A law has returned true and kept what was there: its row's last part. -/
theorem law_post {L:List TypeId}(hz:closedB P L=true){f:Func}{s:ChangeSpec}{apart fresh handsOn:Bool}{W W' :World}{args:Array Value}{ds:List (DataW H)}{before:List MemPlace}{tb:TypeId}
  (hW:DataW.Whole enc P f.params.toList [] apart W args.toList ds [] before) (hv:s.vars= []) (hT:∀t∈f.params.toList,t∈L) (hr:f.resultTypes= #[tb]) (hb:P.underlying tb=some .bool)
  (hs:s.fn H ds= {results:= [.lit (.bool true)],args:=ds}) (hk:Keeps W W' []):s.post enc P f apart fresh handsOn false W args (.bool true) W' :=by
 have hlt:∀p∈before,p.block < W.heap.size:=fun p hp=>hW.lt p hp
 obtain⟨p,q,hA,hV,rfl,hz1,hn⟩:=hW;have hq:q= []:=(trodVars_none hV).2;subst hq;rw[List.append_nil]at hlt hz1 hn;have hargs:∀sp:Nat→Bool,(∀x∈p,sp x.block=true)→DataW.TrodAll enc P W' 0 sp true f.params.toList args.toList ds p:=fun sp hsp=>
  TrodAll.kept hz hT hA (fun x hx=>⟨hk.sameAt (hlt x hx),hsp x hx⟩)
 have hres:∀(b:Nat) (sp:Nat→Bool) (hd:Bool),DataW.TrodAll enc P W' b sp hd f.resultTypes.toList ((Value.bool true).resultList f.resultTypes.size) [.lit (.bool true)] []:=fun b sp hd=>by
  rw[hr];exact trodAll_mk1 (shut_bool hb _)
 refine⟨ds, [],p++ [], [],p, [],⟨p, [],hA,by rw[hv];exact hV,rfl,by simpa using hz1,by simpa using hn⟩, ?_, ?_, ?_, ?_,fun h=>by cases h⟩
 ·rw[List.append_nil,hs];exact hres _ _ _
 ·rw[List.append_nil,hs];exact hargs _ (fun x hx=>by simpa using hlt x hx)
 ·rw[List.append_nil,hs,hv];rfl
 ·refine World.keptBut_mono (fun x hx=>⟨by simpa using hx,Or.inr (Or.inl hx)⟩) ((hk.below (Nat.le_refl _) (by simp)).frame (·∈p))
end
end Go.Proofs.YtoadlafdeoklbaaGreatDoor
