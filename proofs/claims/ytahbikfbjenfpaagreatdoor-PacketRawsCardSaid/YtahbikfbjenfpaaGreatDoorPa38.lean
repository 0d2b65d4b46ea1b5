/- What an argument reads as: the same behind a call that leaves its places alone. Layer 16: a law's row and card out of its walk. Arguments opened: a packet. -/
import Derived.ChangeReads
import Derived.ChangeOld
import Derived.ChangeSame
import Derived.Test.YtahbikfbjenfpaaGreatDoorPa0
import Derived.Test.YtahbikfbjenfpaaGreatDoorRows
import Derived.Test.YtahbikfbjenfpaaGreatDoorCards
import Derived.Test.YtahbikfbjenfpaaGreatDoorTie
import Derived.Deep.DeepHandedRow
import Derived.Deep.DeepWitnessRowRef
import Derived.Lib.LaidIn
import Derived.Lib.LaidU8
import Derived.Shelf.Vars
import Derived.SizedLaws
import Derived.SevenTiedAt
import Derived.ProofKit
import Derived.Test.YtahbikfbjenfpaaGreatDoorPa36
import Derived.OpenShut
import Derived.Deep.Slices
import Derived.Deep.Grids
import Derived.Lib.SmallJoins
import Derived.Deep.Fields

namespace Go.Proofs.YtahbikfbjenfpaaGreatDoor
open Go.RowKit Go.ChangeShapes Go.WideShapes

section
variable {H:Type} {enc:TypeId×Value→H} {P:Program} {w w' :World} {base:Nat} {sp:Nat→Bool} {held:Bool}

/-- A list of types that holds its types' parts; the elements of its slices take up a cell at least. -/
def closedB (P:Program)(L:List TypeId):Bool:=L.all fun t=>match P.underlying t with
 | some (.pointer e)=>L.contains e
 | some (.slice e)=>L.contains e && decide (0 < P.cellsOf e)
 | some (.struct fs)=>fs.toList.all fun f=>L.contains f.type
 | some (.array _ e)=>L.contains e
 | some (.map _ e)=>L.contains e
 | _=>true
theorem closedB_spec {L:List TypeId}(h:closedB P L=true){t:TypeId}(ht:t∈L):match P.underlying t with
 | some (.pointer e)=>e∈L
 | some (.slice e)=>e∈L∧0 < P.cellsOf e
 | some (.struct fs)=>∀f∈fs.toList,f.type∈L
 | some (.array _ e)=>e∈L
 | some (.map _ e)=>e∈L
 | _=>True:=by
 have h1:=(List.all_eq_true.1 h) t ht
 revert h1
 cases P.underlying t with
 | none=>exact fun _=>trivial
 | some d=>
  cases d <;> simp
  intro h f hf;obtain⟨i,hi,rfl⟩:=Array.mem_iff_getElem.1 hf;exact h i hi

theorem mem_places {a:Addr}{n i:Nat}(h:i < n):∃p∈MemPlace.row a n,p.block=a.block:=⟨_,MemPlace.mem_row.2 ⟨i,h,rfl⟩,rfl⟩

/-- One step: the spare cells are asked for where a place of the datum says so. -/
theorem trodStep_spare {L:List TypeId}(hz:closedB P L=true){r r' :TypeId→List Value→Option (DataW H×List MemPlace)}
  (hr:∀t∈L,∀cs x,r t cs=some x→(∀p∈x.2,sp p.block=true)→r' t cs=some x) {t:TypeId} (hT:t∈L) {cs:List Value} {x:DataW H×List MemPlace}
  (h:DataW.trodStep enc P w base (fun _=>true) true r t cs=some x) (hs:∀p∈x.2,sp p.block=true):DataW.trodStep enc P w base sp true r' t cs=some x:=by
 have hk:=closedB_spec hz hT;unfold DataW.trodStep at h ⊢
 split at h
 all_goals first | exact h | skip
 all_goals rename_i hu;simp only[hu]at hk
 ·obtain⟨y,hy,rfl⟩:=Option.map_eq_some_iff.1 h
  obtain⟨cs',hc,hv⟩:=Option.bind_eq_some_iff.1 hy;have h1:=hr _ hk _ _ hv (fun p hp=>hs p (List.mem_append_right _ hp));simp only[hc,Option.bind_some,h1,Option.map_some]
 ·rename_i e a len cap
  simp only at h ⊢
  split at h
  ·rename_i hc
   rw[if_pos hc];simp only[if_true]at h;obtain⟨elems,he,h2⟩:=Option.bind_eq_some_iff.1 h;obtain⟨rest,hre,rfl⟩:=Option.map_eq_some_iff.1 h2;have hel:elems.length=len:=by simpa using mapM_some_length he
   have hrl:rest.length=cap - len:=by simpa using mapM_some_length hre
   have up:∀i y,y∈elems++rest→(w.cells? base (a.add (i*P.cellsOf e)) (P.cellsOf e)).bind (r e)=some y→(w.cells? base (a.add (i*P.cellsOf e)) (P.cellsOf e)).bind (r' e)=some y:=by
    intro i y hy hv;obtain⟨cs',hc',hy'⟩:=Option.bind_eq_some_iff.1 hv;rw[hc',Option.bind_some];exact hr _ hk.1 _ _ hy' (fun p hp=>hs p (List.mem_append_right _ (List.mem_flatMap.2 ⟨y,hy,hp⟩)))
   have m1:=mapM_carry he (g:=fun i=>(w.cells? base (a.add (i*P.cellsOf e)) (P.cellsOf e)).bind (r' e)) (fun i y _ hy hv=>up i y (List.mem_append_left _ hy) hv);have m2:=mapM_carry hre (g:=fun j=>(w.cells? base (a.add ((len+j)*P.cellsOf e)) (P.cellsOf e)).bind (r' e)) (fun j y _ hy hv=>up (len+j) y (List.mem_append_right _ hy) hv);rw[m1,Option.bind_some]
   by_cases hsp:sp a.block=true
   ·rw[if_pos hsp,m2];rfl
   ·have hzero:cap - len=0:=by
     rcases Nat.eq_zero_or_pos (cap - len)with h0 | h0
     ·exact h0
     ·exfalso
      have hpos:=hk.2;obtain⟨p,hp,hb⟩:=mem_places (a:=a) (n:=(elems.length+rest.length)*P.cellsOf e) (i:=0) (Nat.mul_pos (by omega) hpos);exact hsp (hb▸hs p (List.mem_append_left _ hp))
    have hrn:rest= []:=List.eq_nil_of_length_eq_zero (by omega);subst hrn;rw[if_neg hsp];rfl
  ·cases h
 ·split at h
  ·rename_i hc
   rw[if_pos hc];obtain⟨xs,hx,rfl⟩:=Option.map_eq_some_iff.1 h;exact Option.map_eq_some_iff.2 ⟨xs,mapM_carry hx (fun f y hf hy hv=>hr _ (by first | exact hk f hf | exact hk) _ _ hv (fun p hp=>hs p (List.mem_flatMap.2 ⟨y,hy,hp⟩))),rfl⟩
  ·cases h
 ·split at h
  ·rename_i hc
   rw[if_pos hc];obtain⟨xs,hx,rfl⟩:=Option.map_eq_some_iff.1 h;exact Option.map_eq_some_iff.2 ⟨xs,mapM_carry hx (fun f y hf hy hv=>hr _ (by first | exact hk f hf | exact hk) _ _ hv (fun p hp=>hs p (List.mem_flatMap.2 ⟨y,hy,hp⟩))),rfl⟩
  ·cases h
 ·rename_i k e b
  split at h
  ·rename_i es clock hb
   split at h
   ·rename_i hc
    obtain⟨entries,he,hd⟩:=Option.bind_eq_some_iff.1 h;simp only at hd
    split at hd
    ·rename_i hris
     have hx:=Option.some.inj hd;subst hx;rw[if_pos hc];refine Option.bind_eq_some_iff.2 ⟨entries,mapM_carry he (fun x y _ hy hv=> ?_),by simp[hris]⟩;obtain⟨key,hkey,hv2⟩:=Option.bind_eq_some_iff.1 hv;refine Option.bind_eq_some_iff.2 ⟨key,hkey, ?_⟩
     split at hv2
     ·rename_i hf
      rw[if_pos hf];obtain⟨q,hq,rfl⟩:=Option.map_eq_some_iff.1 hv2;rw[hr _ hk _ _ hq (fun p hp=>hs p (List.mem_cons_of_mem _ (List.mem_flatMap.2 ⟨_,hy,hp⟩)))];rfl
     ·cases hv2
    ·cases hd
   ·cases h
  ·cases h

theorem trod_spare {L:List TypeId}(hz:closedB P L=true):∀(n:Nat) (t:TypeId),t∈L→∀(cs:List Value) (x:DataW H×List MemPlace),
  DataW.trod enc P w base (fun _=>true) true n t cs=some x→(∀p∈x.2,sp p.block=true)→DataW.trod enc P w base sp true n t cs=some x
 | 0,_,_,_,_,h,_=>by simp[DataW.trod]at h
 | n+1,t,hT,cs,x,h,hs=>by
  rw[DataW.trod_step]at h ⊢
  exact trodStep_spare hz (fun t ht cs x=>trod_spare hz n t ht cs x) hT h hs

theorem Trod.kept {L:List TypeId}(hz:closedB P L=true){t:TypeId}(hT:t∈L){v:Value}{d:DataW H}{ps:List MemPlace}(h:DataW.Trod enc P w base (fun _=>true) true t v d ps)
  (hs:∀p∈ps,w.sameAt w' p∧sp p.block=true):DataW.Trod enc P w' base sp true t v d ps:=by
 obtain⟨n,hn⟩:=h;exact⟨n,DataW.trod_carry n _ _ _ (trod_spare hz n _ hT _ _ hn (fun p hp=>(hs p hp).2)) (fun p hp=>(hs p hp).1)⟩
theorem TrodAll.kept {L:List TypeId}(hz:closedB P L=true):∀{ts:List TypeId} {vs:List Value} {ds:List (DataW H)} {ps:List MemPlace},(∀t∈ts,t∈L)→DataW.TrodAll enc P w base (fun _=>true) true ts vs ds ps→
  (∀p∈ps,w.sameAt w' p∧sp p.block=true)→DataW.TrodAll enc P w' base sp true ts vs ds ps
 | [], [], [],_,_,h,_=>h
 | _::_,_::_,_::_,_,hT,⟨p,q,h,hs,e⟩,hp=>⟨p,q,Trod.kept hz (hT _ (by simp)) h (fun x hx=>hp x (e▸List.mem_append_left _ hx)),TrodAll.kept hz (fun t ht=>hT t (by simp[ht])) hs (fun x hx=>hp x (e▸List.mem_append_right _ hx)),e⟩

theorem Keeps.sameAt (h:Keeps w w' []){p:MemPlace}(hp:p.block < w.heap.size):w.sameAt w' p:=by
 cases p with
 | cell b off=>exact h.cell (p:=⟨b,off,none⟩) hp (by simp)
 | map b=>exact h.block b hp (by simp)
end

section
variable {H:Type} {enc:TypeId×Value→H} {P:Program}
/-- A law has returned true and kept what was there: its row's last part. -/
theorem law_post {L:List TypeId}(hz:closedB P L=true){f:Func}{s:ChangeSpec}{apart fresh handsOn:Bool}{W W' :World}{args:Array Value}{ds:List (DataW H)}{before:List MemPlace}{tb:TypeId}
  (hW:DataW.Whole enc P f.params.toList [] apart W args.toList ds [] before) (hv:s.vars= []) (hT:∀t∈f.params.toList,t∈L) (hr:f.resultTypes= #[tb]) (hb:P.underlying tb=some .bool)
  (hs:s.fn H ds= {results:= [.lit (.bool true)],args:=ds}) (hk:Keeps W W' []):s.post enc P f apart fresh handsOn false W args (.bool true) W' :=by
 have hlt:∀p∈before,p.block < W.heap.size:=fun p hp=>hW.lt p hp
 obtain⟨p,q,hA,hV,rfl,hz1,hn⟩:=hW;have hq:q= []:=(trodVars_none hV).2;subst hq;rw[List.append_nil]at hlt hz1 hn;have hargs:∀sp:Nat→Bool,(∀x∈p,sp x.block=true)→DataW.TrodAll enc P W' 0 sp true f.params.toList args.toList ds p:=fun sp hsp=>
  TrodAll.kept hz hT hA (fun x hx=>⟨hk.sameAt (hlt x hx),hsp x hx⟩)
 have hres:∀(b:Nat) (sp:Nat→Bool) (hd:Bool),DataW.TrodAll enc P W' b sp hd f.resultTypes.toList ((Value.bool true).resultList f.resultTypes.size) [.lit (.bool true)] []:=fun b sp hd=>by
  rw[hr];exact trodAll_mk1 (shut_bool hb _)
 refine⟨ds, [],p++ [], [],p, [],⟨p, [],hA,by rw[hv];exact hV,rfl,by simpa using hz1,by simpa using hn⟩, ?_, ?_, ?_, ?_,fun h=>by cases h⟩
 ·rw[List.append_nil,hs];exact hres _ _ _
 ·rw[List.append_nil,hs];exact hargs _ (fun x hx=>by simpa using hlt x hx)
 ·rw[List.append_nil,hs,hv];rfl
 ·refine World.keptBut_mono (fun x hx=>⟨by simpa using hx,Or.inr (Or.inl hx)⟩) ((hk.below (Nat.le_refl _) (by simp)).frame (·∈p))
end
end Go.Proofs.YtahbikfbjenfpaaGreatDoor

namespace Go.Proofs.YtahbikfbjenfpaaGreatDoor
open Go.ChangeShapes Go.WideShapes Go.ChangeAt Go.RowKit

theorem Tryz.own:ownKnob Tryz.prog.godebug=none:=by kernel_rfl
theorem undBool:Tryz.prog.underlying 4=some .bool:=by kernel_rfl

/-- The world's shape tells that MaxLen holds some number. -/
theorem maxL_of_shaped {W:World}(h:W.ShapedOpen Tryz.prog):MaxL W:=
 cell_of_shapedOpen_int (g:=0) (t:=3) (zero:= #[.int .i64 0]) (k:= .i64) h (by decide+kernel) (by kernel_rfl) rfl (by kernel_rfl) (by kernel_rfl) (by kernel_rfl)

/-- The witness: the settled world, the two tables holding what their initialisers lay. -/
noncomputable def laidWorld (os:Os):World:=
 let w0:=World.holding Tryz.prog os ⟨#[], #[], []⟩
 let put (h:Array Obj) (g:Nat) (cs:Array Value):Array Obj:=h.modify g fun
  | .cells _ t frozen=> .cells cs t frozen
  | o=>o
 let h1:=put w0.heap 1 (Lib.firstTab.map fun z=>Value.int .u8 z).toArray
 let h2:=put h1 2 ((List.range 16).flatMap fun i=> [Value.int .u8 (Lib.accLo i),Value.int .u8 (Lib.accHi i)]).toArray
 {w0 with heap:=h2}
theorem laid_met (os:Os)(args:Array Value):laidMet Tryz.prog Rows.packetRawsRow.laid ((laidWorld os).forCall (fun _ _=>0) ⟨#[],args, []⟩).memory:=
 (LaidIn.of_run [2,1] 8 (by kernel_rfl) (by kernel_rfl) (by kernel_rfl) (by kernel_rfl)).met
end Go.Proofs.YtahbikfbjenfpaaGreatDoor

namespace Go.Proofs.YtahbikfbjenfpaaGreatDoor
open Go.ChangeShapes Go.WideShapes Go.RowKit Go.Joins Go.Deep

theorem oUndPack:Tryz.prog.underlying 22=some (.int .i64):=by kernel_rfl
theorem oUndInt64:Tryz.prog.underlying 2=some (.int .i64):=by kernel_rfl
theorem oUndInt:Tryz.prog.underlying 3=some (.int .i64):=by kernel_rfl
theorem oUndStr:Tryz.prog.underlying 9=some .string:=by kernel_rfl
theorem oUndBool:Tryz.prog.underlying 4=some .bool:=by kernel_rfl
theorem oUndWants:Tryz.prog.underlying 25=some (.slice 50):=by kernel_rfl
theorem oUndStrs:Tryz.prog.underlying 27=some (.slice 9):=by kernel_rfl
theorem oUndInts:Tryz.prog.underlying 26=some (.slice 3):=by kernel_rfl
theorem oCellsWant:Tryz.prog.cellsOf 50=2:=by kernel_rfl
theorem oCellsInt:Tryz.prog.cellsOf 3=1:=by kernel_rfl
theorem oCellsStr:Tryz.prog.cellsOf 9=1:=by kernel_rfl
section
variable {H:Type} {enc:TypeId×Value→H} {W:World}
theorem blk_of_cell {b i:Nat}{u:Value}(h:W.cell? ⟨b,i,none⟩=some u):∃cs,Blk W b cs:=by
 unfold World.cell? at h;simp only at h
 split at h
 ·rename_i cs t fr he
  exact⟨cs,t,fr,he⟩
 ·cases h
/-- A list out of an argument's cells. -/
theorem listG_of {α:Type} [Inhabited α] {k:Nat}{f:α→List Value}(E:Enc k f){a:Addr}{len:Nat}(hp:∀i,i < len→∃y:α,∀j,j < k→W.cell? (a.add (i*k+j))=(f y)[j]?):
  ∃l:List α,l.length=len∧ListG W k f (some a) l:=by
 obtain⟨Y,hY⟩:=choose_lt (α:=α) hp;have hlen:((List.range len).map Y).length=len:=by simp
 refine⟨(List.range len).map Y,hlen,fun hpos=> ?_⟩;rw[hlen]at hpos;obtain⟨ab,ao,spot⟩:=a;have hc0:=hY 0 hpos 0 E.pos;have hl:=E.len (Y 0);have hu:(f (Y 0))[0]? =some ((f (Y 0))[0]'(by rw[hl];exact E.pos)):=List.getElem?_eq_getElem _;rw[hu]at hc0;have hspot:spot=none:=by simpa [Addr.add]using World.cell?_spot hc0
 subst hspot;rw[Addr.add_lit]at hc0;obtain⟨cs,hb⟩:=blk_of_cell hc0;refine⟨ab,ao,cs,rfl,hb,fun i hi j hj=> ?_⟩;rw[hlen]at hi;have h:=hY i hi j hj;rw[Addr.add_lit,hb.cell]at h;simp only[List.getElem_map,List.getElem_range];rw[←h,Nat.add_assoc]
end
set_option maxRecDepth 100000 in
theorem list24 {α:Type}{l:List α}(h:l.length=24):∃c0 c1 c2 c3 c4 c5 c6 c7 c8 c9 c10 c11 c12 c13 c14 c15 c16 c17 c18 c19 c20 c21 c22 c23,l= [c0,c1,c2,c3,c4,c5,c6,c7,c8,c9,c10,c11,c12,c13,c14,c15,c16,c17,c18,c19,c20,c21,c22,c23]:=by
 obtain⟨c0,l0,rfl⟩:=List.exists_cons_of_length_eq_add_one h;have h0:=Nat.succ.inj h;obtain⟨c1,l1,rfl⟩:=List.exists_cons_of_length_eq_add_one h0;have h1:=Nat.succ.inj h0;obtain⟨c2,l2,rfl⟩:=List.exists_cons_of_length_eq_add_one h1;have h2:=Nat.succ.inj h1;obtain⟨c3,l3,rfl⟩:=List.exists_cons_of_length_eq_add_one h2;have h3:=Nat.succ.inj h2;obtain⟨c4,l4,rfl⟩:=List.exists_cons_of_length_eq_add_one h3;have h4:=Nat.succ.inj h3;obtain⟨c5,l5,rfl⟩:=List.exists_cons_of_length_eq_add_one h4;have h5:=Nat.succ.inj h4;obtain⟨c6,l6,rfl⟩:=List.exists_cons_of_length_eq_add_one h5;have h6:=Nat.succ.inj h5;obtain⟨c7,l7,rfl⟩:=List.exists_cons_of_length_eq_add_one h6;have h7:=Nat.succ.inj h6;obtain⟨c8,l8,rfl⟩:=List.exists_cons_of_length_eq_add_one h7;have h8:=Nat.succ.inj h7;obtain⟨c9,l9,rfl⟩:=List.exists_cons_of_length_eq_add_one h8;have h9:=Nat.succ.inj h8;obtain⟨c10,l10,rfl⟩:=List.exists_cons_of_length_eq_add_one h9;have h10:=Nat.succ.inj h9;obtain⟨c11,l11,rfl⟩:=List.exists_cons_of_length_eq_add_one h10;have h11:=Nat.succ.inj h10;obtain⟨c12,l12,rfl⟩:=List.exists_cons_of_length_eq_add_one h11;have h12:=Nat.succ.inj h11;obtain⟨c13,l13,rfl⟩:=List.exists_cons_of_length_eq_add_one h12;have h13:=Nat.succ.inj h12;obtain⟨c14,l14,rfl⟩:=List.exists_cons_of_length_eq_add_one h13;have h14:=Nat.succ.inj h13;obtain⟨c15,l15,rfl⟩:=List.exists_cons_of_length_eq_add_one h14;have h15:=Nat.succ.inj h14;obtain⟨c16,l16,rfl⟩:=List.exists_cons_of_length_eq_add_one h15;have h16:=Nat.succ.inj h15;obtain⟨c17,l17,rfl⟩:=List.exists_cons_of_length_eq_add_one h16;have h17:=Nat.succ.inj h16;obtain⟨c18,l18,rfl⟩:=List.exists_cons_of_length_eq_add_one h17;have h18:=Nat.succ.inj h17;obtain⟨c19,l19,rfl⟩:=List.exists_cons_of_length_eq_add_one h18;have h19:=Nat.succ.inj h18;obtain⟨c20,l20,rfl⟩:=List.exists_cons_of_length_eq_add_one h19;have h20:=Nat.succ.inj h19;obtain⟨c21,l21,rfl⟩:=List.exists_cons_of_length_eq_add_one h20;have h21:=Nat.succ.inj h20;obtain⟨c22,l22,rfl⟩:=List.exists_cons_of_length_eq_add_one h21;have h22:=Nat.succ.inj h21;obtain⟨c23,l23,rfl⟩:=List.exists_cons_of_length_eq_add_one h22;have h23:=Nat.succ.inj h22;obtain rfl:=List.eq_nil_of_length_eq_zero h23;exact⟨c0,c1,c2,c3,c4,c5,c6,c7,c8,c9,c10,c11,c12,c13,c14,c15,c16,c17,c18,c19,c20,c21,c22,c23,rfl⟩
theorem sized_at {H:Type}{P:Program}{ts:List TypeId}{ds:List (DataW H)}(h:(DataW.weightsEach P ts ds).all (·≤reachBytes)=true){j:Nat}{t:TypeId}{d:DataW H}(ht:ts[j]? =some t)(hd:ds[j]? =some d):(d.weights P t).all (·≤reachBytes)=true:=
 List.all_eq_true.2 fun n hn=>List.all_eq_true.1 h n (DataW.weights_mem_each ht hd n hn)
theorem str_back (s:ByteArray):Value.string s= .string ⟨s.data.toList.toArray⟩:=by simp
section
variable {H:Type} {enc:TypeId×Value→H} {W:World}
set_option maxRecDepth 100000 in
theorem want_of_trod {fuel:Nat}{cs:List Value}{x:DataW H×List MemPlace}(hf:DataW.trod enc Tryz.prog W 0 (fun _=>true) true fuel 50 cs=some x):∃y:List UInt8×Int,cs=wantC y:=by
 obtain⟨xs,m,_,_,hl,hlen,hg⟩:=DataW.trod_struct Tryz.underlying50 hf;rw[oCellsWant]at hl
 match cs,hl with
 | [c0,c1],_=>
  have h0:DataW.trod enc Tryz.prog W 0 (fun _=>true) true m 9 (([c0,c1].drop 0).take (Tryz.prog.cellsOf 9))=xs[0]? :=hg 0 _ rfl;have h1:DataW.trod enc Tryz.prog W 0 (fun _=>true) true m 3 (([c0,c1].drop 1).take (Tryz.prog.cellsOf 3))=xs[1]? :=hg 1 _ rfl;have hx:xs.length=2:=hlen;rw[oCellsStr,List.getElem?_eq_getElem (by omega)]at h0;rw[oCellsInt,List.getElem?_eq_getElem (by omega)]at h1;obtain⟨s,e0,_⟩:=DataW.trod_string oUndStr h0;obtain⟨n,e1,_,_⟩:=DataW.trod_int oUndInt h1;simp at e0 e1;subst e0 e1;exact⟨(s.data.toList,n),by unfold wantC;rw[←str_back]⟩
set_option maxRecDepth 100000 in
theorem wants_of_trod {fuel:Nat}{v:Value}{x:DataW H×List MemPlace}(hf:DataW.trod enc Tryz.prog W 0 (fun _=>true) true fuel 25 [v]=some x):∃A c,∃l:List (List UInt8×Int),v= .slice A l.length c∧ListG W 2 wantC A l:=by
 rcases open_slice oUndWants hf with⟨hcs,_⟩ | ⟨a,len,cap,m,n,D,Pl,hcs,_,hl,_,hmm,_,hx⟩
 ·injection hcs with e
  exact⟨none,0, [],e,ListG.nil _ _ _ _⟩
 ·injection hcs with e
  simp only[if_true]at hmm;subst hmm;obtain⟨l,hlen,hg⟩:=listG_of (W:=W) (f:=wantC) encWant (a:=a) (len:=len) (fun i hi=>by
   obtain⟨cs,h1,h2⟩:=hx i (by omega);rw[oCellsWant]at h1;obtain⟨y,rfl⟩:=want_of_trod h2;obtain⟨_,_,hc⟩:=World.cells?_some h1;refine⟨y,fun j hj=> ?_⟩;have g:=hc j hj;rw[Addr.add_add]at g;exact g)
  exact⟨some a,m,l,by rw[hlen];exact e,hg⟩
set_option maxRecDepth 100000 in
theorem codes_of_trod {fuel:Nat}{v:Value}{x:DataW H×List MemPlace}(hf:DataW.trod enc Tryz.prog W 0 (fun _=>true) true fuel 26 [v]=some x):∃A c,∃l:List Int,v= .slice A l.length c∧ListG W 1 intC A l:=by
 rcases open_slice oUndInts hf with⟨hcs,_⟩ | ⟨a,len,cap,m,n,D,Pl,hcs,_,hl,_,hmm,_,hx⟩
 ·injection hcs with e
  exact⟨none,0, [],e,ListG.nil _ _ _ _⟩
 ·injection hcs with e
  simp only[if_true]at hmm;subst hmm;obtain⟨l,hlen,hg⟩:=listG_of (W:=W) (f:=intC) encIntC (a:=a) (len:=len) (fun i hi=>by
   obtain⟨cs,h1,h2⟩:=hx i (by omega);rw[oCellsInt]at h1;obtain⟨_,hcl,hc⟩:=World.cells?_some h1;obtain⟨y,e0,_,_⟩:=DataW.trod_int oUndInt h2;refine⟨y,fun j hj=> ?_⟩;have g:=hc j hj;rw[Addr.add_add,e0]at g;exact g)
  exact⟨some a,m,l,by rw[hlen];exact e,hg⟩
set_option maxRecDepth 100000 in
theorem texts_of_trod {fuel:Nat}{v:Value}{x:DataW H×List MemPlace}(hf:DataW.trod enc Tryz.prog W 0 (fun _=>true) true fuel 27 [v]=some x):∃A c,∃l:List (List UInt8),v= .slice A l.length c∧ListG W 1 txtV A l:=by
 rcases open_slice oUndStrs hf with⟨hcs,_⟩ | ⟨a,len,cap,m,n,D,Pl,hcs,_,hl,_,hmm,_,hx⟩
 ·injection hcs with e
  exact⟨none,0, [],e,ListG.nil _ _ _ _⟩
 ·injection hcs with e
  simp only[if_true]at hmm;subst hmm;obtain⟨l,hlen,hg⟩:=listG_of (W:=W) (f:=txtV) encTxt (a:=a) (len:=len) (fun i hi=>by
   obtain⟨cs,h1,h2⟩:=hx i (by omega);rw[oCellsStr]at h1;obtain⟨_,hcl,hc⟩:=World.cells?_some h1;obtain⟨y,e0,_⟩:=DataW.trod_string oUndStr h2;refine⟨y.data.toList,fun j hj=> ?_⟩;have g:=hc j hj;rw[Addr.add_add,e0,str_back]at g;exact g)
  exact⟨some a,m,l,by rw[hlen];exact e,hg⟩
set_option maxRecDepth 100000 in
set_option maxHeartbeats 1000000 in
theorem open_packCells {fuel:Nat}{cs:List Value}{x:DataW H×List MemPlace}(h:DataW.trod enc Tryz.prog W 0 (fun _=>true) true fuel 29 cs=some x):
  ∃p sw sc sf,cs=pkCells p sw sc sf∧PkL W p sw sc sf∧(-9223372036854775808≤p.k∧p.k≤9223372036854775807)∧((x.1.weights Tryz.prog 29).all (·≤reachBytes)=true→p.t.length≤reachBytes∧p.c.length≤reachBytes∧p.u.length≤reachBytes):=by
 obtain⟨ys,n,_,hx,hlen,hyl,hf⟩:=DataW.trod_struct Tryz.underlying29 h;obtain⟨c0,c1,c2,c3,c4,c5,c6,c7,c8,c9,c10,c11,c12,c13,c14,c15,c16,c17,c18,c19,c20,c21,c22,c23,rfl⟩:=list24 (hlen.trans (by kernel_rfl));have hy:∀i,i < 21→∃y,ys[i]? =some y:=fun i hi=>⟨_,List.getElem?_eq_getElem (by rw[hyl];exact hi)⟩
 obtain⟨y0,e0⟩:=hy 0 (by decide);obtain⟨y1,e1⟩:=hy 1 (by decide);obtain⟨y2,e2⟩:=hy 2 (by decide);obtain⟨y3,e3⟩:=hy 3 (by decide);obtain⟨y4,e4⟩:=hy 4 (by decide);obtain⟨y5,e5⟩:=hy 5 (by decide);obtain⟨y6,e6⟩:=hy 6 (by decide);obtain⟨y7,e7⟩:=hy 7 (by decide);obtain⟨y8,e8⟩:=hy 8 (by decide);obtain⟨y9,e9⟩:=hy 9 (by decide);obtain⟨y10,e10⟩:=hy 10 (by decide);obtain⟨y11,e11⟩:=hy 11 (by decide);obtain⟨y12,e12⟩:=hy 12 (by decide);obtain⟨y13,e13⟩:=hy 13 (by decide);obtain⟨y14,e14⟩:=hy 14 (by decide);obtain⟨y15,e15⟩:=hy 15 (by decide);obtain⟨y16,e16⟩:=hy 16 (by decide);obtain⟨y17,e17⟩:=hy 17 (by decide);obtain⟨y18,e18⟩:=hy 18 (by decide);obtain⟨y19,e19⟩:=hy 19 (by decide);obtain⟨y20,e20⟩:=hy 20 (by decide);have g0:DataW.trod enc Tryz.prog W 0 (fun _=>true) true n 22 [c0]=some y0:=(hf 0 _ rfl).trans e0;have g1:DataW.trod enc Tryz.prog W 0 (fun _=>true) true n 4 [c1]=some y1:=(hf 1 _ rfl).trans e1;have g2:DataW.trod enc Tryz.prog W 0 (fun _=>true) true n 4 [c2]=some y2:=(hf 2 _ rfl).trans e2;have g3:DataW.trod enc Tryz.prog W 0 (fun _=>true) true n 3 [c3]=some y3:=(hf 3 _ rfl).trans e3;have g4:DataW.trod enc Tryz.prog W 0 (fun _=>true) true n 9 [c4]=some y4:=(hf 4 _ rfl).trans e4;have g5:DataW.trod enc Tryz.prog W 0 (fun _=>true) true n 9 [c5]=some y5:=(hf 5 _ rfl).trans e5;have g6:DataW.trod enc Tryz.prog W 0 (fun _=>true) true n 2 [c6]=some y6:=(hf 6 _ rfl).trans e6;have g7:DataW.trod enc Tryz.prog W 0 (fun _=>true) true n 9 [c7]=some y7:=(hf 7 _ rfl).trans e7;have g8:DataW.trod enc Tryz.prog W 0 (fun _=>true) true n 4 [c8]=some y8:=(hf 8 _ rfl).trans e8;have g9:DataW.trod enc Tryz.prog W 0 (fun _=>true) true n 2 [c9]=some y9:=(hf 9 _ rfl).trans e9;have g10:DataW.trod enc Tryz.prog W 0 (fun _=>true) true n 4 [c10]=some y10:=(hf 10 _ rfl).trans e10;have g11:DataW.trod enc Tryz.prog W 0 (fun _=>true) true n 24 [c11,c12,c13,c14]=some y11:=(hf 11 _ rfl).trans e11;have g12:DataW.trod enc Tryz.prog W 0 (fun _=>true) true n 4 [c15]=some y12:=(hf 12 _ rfl).trans e12;have g13:DataW.trod enc Tryz.prog W 0 (fun _=>true) true n 4 [c16]=some y13:=(hf 13 _ rfl).trans e13;have g14:DataW.trod enc Tryz.prog W 0 (fun _=>true) true n 9 [c17]=some y14:=(hf 14 _ rfl).trans e14;have g15:DataW.trod enc Tryz.prog W 0 (fun _=>true) true n 9 [c18]=some y15:=(hf 15 _ rfl).trans e15;have g16:DataW.trod enc Tryz.prog W 0 (fun _=>true) true n 4 [c19]=some y16:=(hf 16 _ rfl).trans e16;have g17:DataW.trod enc Tryz.prog W 0 (fun _=>true) true n 3 [c20]=some y17:=(hf 17 _ rfl).trans e17;have g18:DataW.trod enc Tryz.prog W 0 (fun _=>true) true n 25 [c21]=some y18:=(hf 18 _ rfl).trans e18;have g19:DataW.trod enc Tryz.prog W 0 (fun _=>true) true n 26 [c22]=some y19:=(hf 19 _ rfl).trans e19;have g20:DataW.trod enc Tryz.prog W 0 (fun _=>true) true n 27 [c23]=some y20:=(hf 20 _ rfl).trans e20;obtain⟨zs,m,_,_,_,hzl,hWl⟩:=DataW.trod_struct Tryz.underlying24 g11;have hz:∀i,i < 4→∃y,zs[i]? =some y:=fun i hi=>⟨_,List.getElem?_eq_getElem (by rw[hzl];exact hi)⟩
 obtain⟨z0,d0⟩:=hz 0 (by decide);obtain⟨z1,d1⟩:=hz 1 (by decide);obtain⟨z2,d2⟩:=hz 2 (by decide);obtain⟨z3,d3⟩:=hz 3 (by decide);have w0:DataW.trod enc Tryz.prog W 0 (fun _=>true) true m 9 [c11]=some z0:=(hWl 0 _ rfl).trans d0;have w1:DataW.trod enc Tryz.prog W 0 (fun _=>true) true m 9 [c12]=some z1:=(hWl 1 _ rfl).trans d1;have w2:DataW.trod enc Tryz.prog W 0 (fun _=>true) true m 3 [c13]=some z2:=(hWl 2 _ rfl).trans d2;have w3:DataW.trod enc Tryz.prog W 0 (fun _=>true) true m 4 [c14]=some z3:=(hWl 3 _ rfl).trans d3;obtain⟨k,a0,_,k1⟩:=DataW.trod_int oUndPack g0;obtain⟨dup,a1,_⟩:=DataW.trod_bool oUndBool g1;obtain⟨ret,a2,_⟩:=DataW.trod_bool oUndBool g2;obtain⟨q,a3,_⟩:=DataW.trod_int oUndInt g3;obtain⟨t,a4,x4,_⟩:=DataW.trod_string oUndStr g4;obtain⟨b,a5,x5,_⟩:=DataW.trod_string oUndStr g5;obtain⟨id,a6,_⟩:=DataW.trod_int oUndInt64 g6;obtain⟨c,a7,x7,_⟩:=DataW.trod_string oUndStr g7;obtain⟨cl,a8,_⟩:=DataW.trod_bool oUndBool g8;obtain⟨keep,a9,_⟩:=DataW.trod_int oUndInt64 g9;obtain⟨hw,a10,_⟩:=DataW.trod_bool oUndBool g10;obtain⟨wt,b0,_⟩:=DataW.trod_string oUndStr w0;obtain⟨wb,b1,_⟩:=DataW.trod_string oUndStr w1;obtain⟨wq,b2,_⟩:=DataW.trod_int oUndInt w2;obtain⟨wr,b3,_⟩:=DataW.trod_bool oUndBool w3;obtain⟨hu,a12,_⟩:=DataW.trod_bool oUndBool g12;obtain⟨hp,a13,_⟩:=DataW.trod_bool oUndBool g13;obtain⟨u,a14,x14,_⟩:=DataW.trod_string oUndStr g14;obtain⟨pw,a15,x15,_⟩:=DataW.trod_string oUndStr g15;obtain⟨pr,a16,_⟩:=DataW.trod_bool oUndBool g16;obtain⟨code,a17,_⟩:=DataW.trod_int oUndInt g17;injection a0 with a0
 injection a1 with a1
 injection a2 with a2
 injection a3 with a3
 injection a4 with a4
 injection a5 with a5
 injection a6 with a6
 injection a7 with a7
 injection a8 with a8
 injection a9 with a9
 injection a10 with a10
 injection b0 with b0
 injection b1 with b1
 injection b2 with b2
 injection b3 with b3
 injection a12 with a12
 injection a13 with a13
 injection a14 with a14
 injection a15 with a15
 injection a16 with a16
 injection a17 with a17
 obtain⟨A1,m1,wants,a18,l18⟩:=wants_of_trod g18;obtain⟨A2,m2,codes,a19,l19⟩:=codes_of_trod g19;obtain⟨A3,m3,fs,a20,l20⟩:=texts_of_trod g20;subst a0 a1 a2 a3 a4 a5 a6 a7 a8 a9 a10 b0 b1 b2 b3 a12 a13 a14 a15 a16 a17 a18 a19 a20;have hwf:(decide ((-9223372036854775808:Int)≤k) && decide (k≤9223372036854775807))=true:=k1;rw[Bool.and_eq_true,decide_eq_true_eq,decide_eq_true_eq]at hwf;refine⟨⟨k,dup,ret,q,t.data.toList,b.data.toList,id,c.data.toList,cl,keep,hw,wt.data.toList,wb.data.toList,wq,wr,hu,hp,u.data.toList,pw.data.toList,pr,code,wants,codes,fs⟩,_,_,_,by simp[pkCells],⟨⟨A1,m1,rfl,l18⟩,⟨A2,m2,rfl,l19⟩,⟨A3,m3,rfl,l20⟩⟩,hwf,fun hs=> ?_⟩;subst hx;unfold DataW.weights at hs;rw[Tryz.underlying29]at hs;simp only at hs;refine⟨?_, ?_, ?_⟩
 ·exact sized_string hs (j:=4) (t:=9) rfl (by rw[List.getElem?_map,e4,x4];rfl)
 ·exact sized_string hs (j:=7) (t:=9) rfl (by rw[List.getElem?_map,e7,x7];rfl)
 ·exact sized_string hs (j:=14) (t:=9) rfl (by rw[List.getElem?_map,e14,x14];rfl)
set_option maxRecDepth 100000 in
theorem open_pack {base:Nat}{v:Value}{d:DataW H}{p:List MemPlace}(hv:Value.okWide Tryz.prog W .any base 29 v)(h:DataW.Trod enc Tryz.prog W 0 (fun _=>true) true 29 v d p)(hs:(d.weights Tryz.prog 29).all (·≤reachBytes)=true):
  ∃p sw sc sf,v=pkV p sw sc sf∧PkL W p sw sc sf∧(-9223372036854775808≤p.k∧p.k≤9223372036854775807)∧p.t.length+p.c.length+p.u.length≤9223372036854775807:=by
 obtain⟨cs,rfl,hsz⟩:=okWide_struct Tryz.underlying29 hv;obtain⟨l⟩:=cs;obtain⟨fuel,hf⟩:=h;obtain⟨q,sw,sc,sf,e,h1,h2,h3⟩:=open_packCells (show DataW.trod enc Tryz.prog W 0 (fun _=>true) true fuel 29 l=_ by simpa [Value.cells]using hf);refine⟨q,sw,sc,sf,by rw[e];rfl,h1,h2, ?_⟩;obtain⟨g1,g2,g3⟩:=h3 hs;have:=reachBytes_lt;omega
end
end Go.Proofs.YtahbikfbjenfpaaGreatDoor
