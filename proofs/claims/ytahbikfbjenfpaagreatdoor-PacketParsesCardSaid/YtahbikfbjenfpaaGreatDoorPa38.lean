/- What an argument reads as: the same behind a call that leaves its places alone. Layer 16: a law's row and card out of its walk. Arguments opened: a packet. -/
import Derived.ChangeReads
import Derived.ChangeOld
import Derived.ChangeSame
import Derived.Test.YtahbikfbjenfpaaGreatDoorPa0
import Derived.Test.YtahbikfbjenfpaaGreatDoorRows
import Derived.Test.YtahbikfbjenfpaaGreatDoorCards
import Derived.Test.YtahbikfbjenfpaaGreatDoorTie
import Derived.Deep.DeepHandedRow
import Derived.Deep.DeepWitnessRowRef
import Derived.Lib.LaidIn
import Derived.Lib.LaidU8
import Derived.Shelf.Vars
import Derived.SizedLaws
import Derived.SevenTiedAt
import Derived.ProofKit
import Derived.Test.YtahbikfbjenfpaaGreatDoorPa36
import Derived.OpenShut
import Derived.Deep.Slices
import Derived.Deep.Grids
import Derived.Lib.SmallJoins
import Derived.Deep.Fields

namespace Go.Proofs.YtahbikfbjenfpaaGreatDoor
open Go.RowKit Go.ChangeShapes Go.WideShapes

section
variable {H:Type} {enc:TypeId×Value->H} {P:Program} {w w' :au} {base:Nat} {sp:Nat->Bool} {held:Bool}

/-- A list of types that holds its types' parts; the elements of its slices take up a cell at least. -/
def qb (P:Program)(L:List TypeId):Bool:=L.all λt=>match P.underlying t with
 | some (.pointer e)=>L.contains e
 | some (.slice e)=>L.contains e && decide (0 < P.cellsOf e)
 | some (.struct fs)=>fs.toList.all λf=>L.contains f.type
 | some (.array _ e)=>L.contains e
 | some (.map _ e)=>L.contains e
 | _=>true
theorem zy {L:List TypeId}(h:qb P L=true){t:TypeId}(ht:t∈L):match P.underlying t with
 | some (.pointer e)=>e∈L
 | some (.slice e)=>e∈L/\0 < P.cellsOf e
 | some (.struct fs)=>∀f∈fs.toList,f.type∈L
 | some (.array _ e)=>e∈L
 | some (.map _ e)=>e∈L
 | _=>True:=by
 have h1:=(List.all_eq_true.1 h) t ht
 revert h1
 cases P.underlying t with
 | none=>exact λ_=>trivial
 | some d=>
  cases d <;> simp
  intro h f hf;obtain⟨i,hi,rfl⟩:=Array.mem_iff_getElem.1 hf;exact h i hi

theorem De {a:Addr}{n i:Nat}(h:i < n):∃p∈MemPlace.row a n,p.block=a.block:=⟨_,MemPlace.mem_row.2 ⟨i,h,rfl⟩,rfl⟩

/-- One step: the spare cells are asked for where a place of the datum says so. -/
theorem ve {L:List TypeId}(hz:qb P L=true){r r' :TypeId->List Value->Option (DataW H×List MemPlace)}
  (hr:∀t∈L,∀cs x,r t cs=some x->(∀p∈x.2,sp p.block=true)->r' t cs=some x) {t:TypeId} (hT:t∈L) {cs:List Value} {x:DataW H×List MemPlace}
  (h:DataW.trodStep enc P w base (λ_=>true) true r t cs=some x) (hs:∀p∈x.2,sp p.block=true):DataW.trodStep enc P w base sp true r' t cs=some x:=by
 have hk:=zy hz hT;unfold DataW.trodStep at h ⊢
 split at h
 all_goals first | exact h | skip
 all_goals rename_i hu;simp only[hu]at hk
 ·obtain⟨y,hy,rfl⟩:=Option.map_eq_some_iff.1 h
  obtain⟨cs',hc,hv⟩:=Option.bind_eq_some_iff.1 hy;have h1:=hr _ hk _ _ hv (λp hp=>hs p (Ez _ hp));simp only[hc,di,h1,tg]
 ·rename_i e a len cap
  simp only at h ⊢
  split at h
  ·rename_i hc
   rw[aE hc];simp only[jF]at h;obtain⟨elems,he,h2⟩:=Option.bind_eq_some_iff.1 h;obtain⟨rest,SV,rfl⟩:=Option.map_eq_some_iff.1 h2;have hel:elems.length=len:=by simpa using mapM_some_length he
   have hrl:rest.length=cap - len:=by simpa using mapM_some_length SV
   have up:∀i y,y∈elems++rest->(w.cells? base (a.add (i*P.cellsOf e)) (P.cellsOf e)).bind (r e)=some y->(w.cells? base (a.add (i*P.cellsOf e)) (P.cellsOf e)).bind (r' e)=some y:=by
    intro i y hy hv;obtain⟨cs',hc',hy'⟩:=Option.bind_eq_some_iff.1 hv;rw[hc',di];exact hr _ hk.1 _ _ hy' (λp hp=>hs p (Ez _ (List.mem_flatMap.2 ⟨y,hy,hp⟩)))
   have m1:=mapM_carry he (g:=λi=>(w.cells? base (a.add (i*P.cellsOf e)) (P.cellsOf e)).bind (r' e)) (λi y _ hy hv=>up i y (F6 _ hy) hv);have m2:=mapM_carry SV (g:=λj=>(w.cells? base (a.add ((len+j)*P.cellsOf e)) (P.cellsOf e)).bind (r' e)) (λj y _ hy hv=>up (len+j) y (Ez _ hy) hv);rw[m1,di]
   by_cases hsp:sp a.block=true
   ·rw[aE hsp,m2];rfl
   ·have hzero:cap - len=0:=by
     rcases Ey (cap - len)with h0 | h0
     ·exact h0
     ·exfalso
      have hpos:=hk.2;obtain⟨p,hp,hb⟩:=De (a:=a) (n:=(elems.length+rest.length)*P.cellsOf e) (i:=0) (Nat.mul_pos (by omega) hpos);exact hsp (hb▸hs p (F6 _ hp))
    have Fw:rest= []:=Ex (by omega);subst Fw;rw[aj hsp];rfl
  ·cases h
 ·split at h
  ·rename_i hc
   rw[aE hc];obtain⟨xs,hx,rfl⟩:=Option.map_eq_some_iff.1 h;exact Option.map_eq_some_iff.2 ⟨xs,mapM_carry hx (λf y hf hy hv=>hr _ (by first | exact hk f hf | exact hk) _ _ hv (λp hp=>hs p (List.mem_flatMap.2 ⟨y,hy,hp⟩))),rfl⟩
  ·cases h
 ·split at h
  ·rename_i hc
   rw[aE hc];obtain⟨xs,hx,rfl⟩:=Option.map_eq_some_iff.1 h;exact Option.map_eq_some_iff.2 ⟨xs,mapM_carry hx (λf y hf hy hv=>hr _ (by first | exact hk f hf | exact hk) _ _ hv (λp hp=>hs p (List.mem_flatMap.2 ⟨y,hy,hp⟩))),rfl⟩
  ·cases h
 ·rename_i k e b
  split at h
  ·rename_i es clock hb
   split at h
   ·rename_i hc
    obtain⟨entries,he,hd⟩:=Option.bind_eq_some_iff.1 h;simp only at hd
    split at hd
    ·rename_i hris
     have hx:=Option.some.inj hd;subst hx;rw[aE hc];refine Option.bind_eq_some_iff.2 ⟨entries,mapM_carry he (λx y _ hy hv=> ?_),by simp[hris]⟩;obtain⟨key,hkey,NZ⟩:=Option.bind_eq_some_iff.1 hv;refine Option.bind_eq_some_iff.2 ⟨key,hkey, ?_⟩
     split at NZ
     ·rename_i hf
      rw[aE hf];obtain⟨q,hq,rfl⟩:=Option.map_eq_some_iff.1 NZ;rw[hr _ hk _ _ hq (λp hp=>hs p (List.mem_cons_of_mem _ (List.mem_flatMap.2 ⟨_,hy,hp⟩)))];rfl
     ·cases NZ
    ·cases hd
   ·cases h
  ·cases h

theorem u_ {L:List TypeId}(hz:qb P L=true):∀(n:Nat) (t:TypeId),t∈L->∀(cs:List Value) (x:DataW H×List MemPlace),
  DataW.trod enc P w base (λ_=>true) true n t cs=some x->(∀p∈x.2,sp p.block=true)->DataW.trod enc P w base sp true n t cs=some x
 | 0,_,_,_,_,h,_=>by simp[DataW.trod]at h
 | n+1,t,hT,cs,x,h,hs=>by
  rw[DataW.trod_step]at h ⊢
  exact ve hz (λt ht cs x=>u_ hz n t ht cs x) hT h hs

theorem Trod.kept {L:List TypeId}(hz:qb P L=true){t:TypeId}(hT:t∈L){v:Value}{d:DataW H}{ps:List MemPlace}(h:DataW.Trod enc P w base (λ_=>true) true t v d ps)
  (hs:∀p∈ps,w.sameAt w' p/\sp p.block=true):DataW.Trod enc P w' base sp true t v d ps:=by
 obtain⟨n,hn⟩:=h;exact⟨n,DataW.trod_carry n _ _ _ (u_ hz n _ hT _ _ hn (λp hp=>(hs p hp).2)) (λp hp=>(hs p hp).1)⟩
theorem TrodAll.kept {L:List TypeId}(hz:qb P L=true):∀{ts:List TypeId} {vs:List Value} {ds:List (DataW H)} {ps:List MemPlace},(∀t∈ts,t∈L)->DataW.TrodAll enc P w base (λ_=>true) true ts vs ds ps->
  (∀p∈ps,w.sameAt w' p/\sp p.block=true)->DataW.TrodAll enc P w' base sp true ts vs ds ps
 | [], [], [],_,_,h,_=>h
 | _::_,_::_,_::_,_,hT,⟨p,q,h,hs,e⟩,hp=>⟨p,q,Trod.kept hz (hT _ (by simp)) h (λx hx=>hp x (e▸F6 _ hx)),TrodAll.kept hz (λt ht=>hT t (by simp[ht])) hs (λx hx=>hp x (e▸Ez _ hx)),e⟩

theorem ae.sameAt (h:ae w w' []){p:MemPlace}(hp:p.block < w.heap.size):w.sameAt w' p:=by
 cases p with
 | cell b off=>exact h.cell (p:=⟨b,off,none⟩) hp (by simp)
 | map b=>exact h.block b hp (by simp)
end

section
variable {H:Type} {enc:TypeId×Value->H} {P:Program}
/-- A law has returned true and kept what was there: its row's last part. -/
theorem GX {L:List TypeId}(hz:qb P L=true){f:Func}{s:ChangeSpec}{apart fresh handsOn:Bool}{W W' :au}{args:Array Value}{ds:List (DataW H)}{before:List MemPlace}{tb:TypeId}
  (hW:DataW.Whole enc P f.params.toList [] apart W args.toList ds [] before) (hv:s.vars= []) (hT:∀t∈f.params.toList,t∈L) (hr:f.resultTypes= #[tb]) (hb:P.underlying tb=some .bool)
  (hs:s.fn H ds= {results:= [.lit (.bool true)],args:=ds}) (hk:ae W W' []):s.post enc P f apart fresh handsOn false W args (.bool true) W' :=by
 have hlt:∀p∈before,p.block < W.heap.size:=λp hp=>hW.lt p hp
 obtain⟨p,q,hA,hV,rfl,hz1,hn⟩:=hW;have hq:q= []:=(trodVars_none hV).2;subst hq;rw[dJ]at hlt hz1 hn;have hargs:∀sp:Nat->Bool,(∀x∈p,sp x.block=true)->DataW.TrodAll enc P W' 0 sp true f.params.toList args.toList ds p:=λsp hsp=>
  TrodAll.kept hz hT hA (λx hx=>⟨hk.sameAt (hlt x hx),hsp x hx⟩)
 have hres:∀(b:Nat) (sp:Nat->Bool) (hd:Bool),DataW.TrodAll enc P W' b sp hd f.resultTypes.toList ((Value.bool true).resultList f.resultTypes.size) [.lit (.bool true)] []:=λb sp hd=>by
  rw[hr];exact trodAll_mk1 (shut_bool hb _)
 refine⟨ds, [],p++ [], [],p, [],⟨p, [],hA,by rw[hv];exact hV,rfl,by simpa using hz1,by simpa using hn⟩, ?_, ?_, ?_, ?_,λh=>by cases h⟩
 ·rw[dJ,hs];exact hres _ _ _
 ·rw[dJ,hs];exact hargs _ (λx hx=>by simpa using hlt x hx)
 ·rw[dJ,hs,hv];rfl
 ·refine World.keptBut_mono (λx hx=>⟨by simpa using hx,Or.inr (Or.inl hx)⟩) ((hk.below (bE _) (by simp)).frame (·∈p))
end
end Go.Proofs.YtahbikfbjenfpaaGreatDoor

namespace Go.Proofs.YtahbikfbjenfpaaGreatDoor
open Go.ChangeShapes Go.WideShapes Go.ChangeAt Go.RowKit

theorem zOwn:ownKnob Tryz.prog.godebug=none:=by kernel_rfl
theorem Jm:Tryz.prog.underlying 4=some .bool:=by kernel_rfl

/-- The world's shape tells that MaxLen holds some number. -/
theorem vR {W:au}(h:W.ShapedOpen Tryz.prog):lG W:=
 cell_of_shapedOpen_int (g:=0) (t:=3) (zero:= #[.int .i64 0]) (k:= .i64) h (by decide+kernel) (by kernel_rfl) rfl (by kernel_rfl) (by kernel_rfl) (by kernel_rfl)

/-- The witness: the settled world, the two tables holding what their initialisers lay. -/
noncomputable def p4 (os:Os):au:=
 let w0:=World.holding Tryz.prog os ⟨#[], #[], []⟩
 let put (h:Array Obj) (g:Nat) (cs:Array Value):Array Obj:=h.modify g fun
  | .cells _ t frozen=> .cells cs t frozen
  | o=>o
 let h1:=put w0.heap 1 (Lib.firstTab.map λz=>Value.int .u8 z).toArray
 let h2:=put h1 2 ((List.range 16).flatMap λi=> [Value.int .u8 (Lib.accLo i),Value.int .u8 (Lib.accHi i)]).toArray
 {w0 with heap:=h2}
theorem GY (os:Os)(args:Array Value):laidMet Tryz.prog Rows.packetRawsRow.laid ((p4 os).forCall (λ_ _=>0) ⟨#[],args, []⟩).memory:=
 (LaidIn.of_run [2,1] 8 (by kernel_rfl) (by kernel_rfl) (by kernel_rfl) (by kernel_rfl)).met
end Go.Proofs.YtahbikfbjenfpaaGreatDoor

namespace Go.Proofs.YtahbikfbjenfpaaGreatDoor
open Go.ChangeShapes Go.WideShapes Go.RowKit Go.Joins Go.Deep

section
variable {H:Type} {enc:TypeId×Value->H} {W:au}
end
section
variable {H:Type} {enc:TypeId×Value->H} {W:au}
end
end Go.Proofs.YtahbikfbjenfpaaGreatDoor
