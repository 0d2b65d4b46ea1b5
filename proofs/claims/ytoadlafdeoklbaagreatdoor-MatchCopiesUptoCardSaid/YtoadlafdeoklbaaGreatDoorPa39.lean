/- Regions by intervals whose values are named and checked by the kernel. Arguments opened: entries, calls. Arguments opened: calls. -/
import Derived.Test.YtoadlafdeoklbaaGreatDoorPa36
import Derived.Test.YtoadlafdeoklbaaGreatDoorPa16
import Derived.Test.YtoadlafdeoklbaaGreatDoorPa32
import Derived.Test.YtoadlafdeoklbaaGreatDoorPa0
import Derived.ProofKit
import Derived.OpenShut
import Derived.Deep.Slices
import Derived.Deep.Grids
import Derived.Lib.SmallJoins
import Derived.Deep.Fields
import Derived.ChangeSame
import Derived.SizedLaws

namespace Go.Proofs.YtoadlafdeoklbaaGreatDoor
open Go.RowKit

section
variable {P:Program} {Ws:List Iv} {C:World→World→Prop} {A:Nat→World→World→Prop} {w0:World} {ops:Array Oper} {a0:Act} {Q:List Ent→Prop} {o:Oper} {rest:List Oper} {env:List Ent}
theorem vq_is (hL:LightV Ws C A)(k:Nat)(v:Value)(he:env.length=k)
  (hk:wpLooseV P Ws C A w0 ops a0 Q rest (addEnt o.dst (some v) [] (fun _ _ _=>True) env))
  (hw:∀vals:Tmp→Value,Region.wanted o (yielded ops (fill vals env a0).tmps)=true:=by intro _;kernel_rfl) (h:∀(W:World) (vals:Tmp→Value),(execOp (fill vals env a0).eval o).run P W= .ok (.value v) W:=by intro _ _;kernel_rfl):wpLooseV P Ws C A w0 ops a0 Q (o::rest) env:=
 loosev_is k v he (fun W vals _ _=>⟨by rw[if_pos (hw vals),h];exact⟨hL.stp (Keeps.refl _ _),rfl⟩⟩) hk
theorem vq_off (hL:LightV Ws C A)(k:Nat)(he:env.length=k)
  (hk:wpLooseV P Ws C A w0 ops a0 Q rest (addEnt o.dst (some undef) [] (fun _ _ _=>True) env))
  (hw:∀vals:Tmp→Value,Region.wanted o (yielded ops (fill vals env a0).tmps)=false:=by intro _;kernel_rfl):wpLooseV P Ws C A w0 ops a0 Q (o::rest) env:=
 loosev_off k he hL.fit hw hk
theorem vq_load (hL:LightV Ws C A)(k:Nat)(ty:TypeId)(x:Operand)(ad:Addr)(v:Value)(he:env.length=k)(hc:∀W,C w0 W→W.cell? ad=some v)
  (hk:wpLooseV P Ws C A w0 ops a0 Q rest (addEnt o.dst (some v) [] (fun _ _ _=>True) env))
  (ho:o.op= .load ty x:=by rfl) (hw:∀vals:Tmp→Value,Region.wanted o (yielded ops (fill vals env a0).tmps)=true:=by intro _;kernel_rfl) (hx:∀vals,(fill vals env a0).eval x= .pointer (some ad):=by intro _;kernel_rfl) (ht:∀W,(isAgg ty).run P W= .ok false W:=by intro _;kernel_rfl):wpLooseV P Ws C A w0 ops a0 Q (o::rest) env:=
 loosev_is k v he (fun W vals hW _=>⟨by
  have e:(execOp (fill vals env a0).eval o).run P W= .ok (.value v) W:=by
   unfold execOp;simp only[ho,hx,Sem.run_bind,run_load_one ht (hc W hW.c),Result.andThen_ok,Sem.run_pure]
  rw[if_pos (hw vals),e];exact⟨hL.stp (Keeps.refl _ _),rfl⟩⟩) hk
theorem addr_off (b o k:Nat):(⟨b,o,none⟩:Addr).add k=⟨b,o+k,none⟩:=by
 unfold Addr.add
 split
 ·rename_i h
  subst h;rfl
 ·rfl
theorem vq_index (hL:LightV Ws C A)(k:Nat)(ty:TypeId)(x i:Operand)(b ol n c m sz:Nat)(he:env.length=k)(hm:m < n)
  (hk:wpLooseV P Ws C A w0 ops a0 Q rest (addEnt o.dst (some (.pointer (some ⟨b,ol+m*sz,none⟩))) [] (fun _ _ _=>True) env))
  (ho:o.op= .indexAddr ty x i:=by rfl) (hw:∀vals:Tmp→Value,Region.wanted o (yielded ops (fill vals env a0).tmps)=true:=by intro _;kernel_rfl) (hx:∀vals,(fill vals env a0).eval x= .slice (some ⟨b,ol,none⟩) n c:=by intro _;kernel_rfl) (hi:∀vals,(fill vals env a0).eval i= .int .i64 (m:Nat):=by intro _;kernel_rfl)
  (hu:P.underlying ty=some (.slice (P.elem ty)):=by kernel_rfl) (hs:∀W,(sizeOf (P.elem ty)).run P W= .ok sz W:=by intro _;kernel_rfl):wpLooseV P Ws C A w0 ops a0 Q (o::rest) env:=
 loosev_is k _ he (fun W vals _ _=>⟨by
  have h1:=run_indexAt_slice (P:=P) W ty ⟨b,ol,none⟩ n c .i64 (m:Int) hu;rw[if_pos ⟨by omega,by omega⟩,hs,Result.andThen_ok,Int.toNat_natCast,addr_off]at h1;have e:(execOp (fill vals env a0).eval o).run P W= .ok (.value (.pointer (some ⟨b,ol+m*sz,none⟩))) W:=by
   unfold execOp;simp only[ho,hx,hi,Sem.run_bind,h1,Result.andThen_ok,Sem.run_pure]
  rw[if_pos (hw vals),e];exact⟨hL.stp (Keeps.refl _ _),rfl⟩⟩) hk
end
end Go.Proofs.YtoadlafdeoklbaaGreatDoor

namespace Go.Proofs.YtoadlafdeoklbaaGreatDoor
open Go.ChangeShapes Go.WideShapes Go.RowKit Go.Joins Go.Deep

theorem oUndInt:Tryz.prog.underlying 3=some (.int .i64):=by kernel_rfl
theorem oUndStr:Tryz.prog.underlying 9=some .string:=by kernel_rfl
theorem oCellsInt:Tryz.prog.cellsOf 3=1:=by kernel_rfl
theorem oCellsStr:Tryz.prog.cellsOf 9=1:=by kernel_rfl
theorem oCellsSub:Tryz.prog.cellsOf 25=3:=by kernel_rfl
theorem oUndActs:Tryz.prog.underlying 23=some (.slice 27):=by kernel_rfl
theorem oCellsAct:Tryz.prog.cellsOf 27=4:=by kernel_rfl
theorem str_back (s:ByteArray):Value.string s= .string ⟨s.data.toList.toArray⟩:=by simp
section
variable {H:Type} {enc:TypeId×Value→H} {W:World}
theorem blk_of_cell {b i:Nat}{u:Value}(h:W.cell? ⟨b,i,none⟩=some u):∃cs,Blk W b cs:=by
 unfold World.cell? at h;simp only at h
 split at h
 ·rename_i cs t fr he
  exact⟨cs,t,fr,he⟩
 ·cases h
/-- A list out of an argument's cells. -/
theorem listG_of {α:Type} [Inhabited α] {k:Nat}{f:α→List Value}(E:Enc k f){a:Addr}{len:Nat}(hp:∀i,i < len→∃y:α,∀j,j < k→W.cell? (a.add (i*k+j))=(f y)[j]?):
  ∃l:List α,l.length=len∧ListG W k f (some a) l:=by
 obtain⟨Y,hY⟩:=choose_lt (α:=α) hp;have hlen:((List.range len).map Y).length=len:=by simp
 refine⟨(List.range len).map Y,hlen,fun hpos=> ?_⟩;rw[hlen]at hpos;obtain⟨ab,ao,spot⟩:=a;have hc0:=hY 0 hpos 0 E.pos;have hl:=E.len (Y 0);have hu:(f (Y 0))[0]? =some ((f (Y 0))[0]'(by rw[hl];exact E.pos)):=List.getElem?_eq_getElem _;rw[hu]at hc0;have hspot:spot=none:=by simpa [Addr.add]using World.cell?_spot hc0
 subst hspot;rw[Addr.add_lit]at hc0;obtain⟨cs,hb⟩:=blk_of_cell hc0;refine⟨ab,ao,cs,rfl,hb,fun i hi j hj=> ?_⟩;rw[hlen]at hi;have h:=hY i hi j hj;rw[Addr.add_lit,hb.cell]at h;simp only[List.getElem_map,List.getElem_range];rw[←h,Nat.add_assoc]
instance:Inhabited Sb:=⟨⟨[], [],0⟩⟩
set_option maxRecDepth 100000 in
theorem sub_of_trod {fuel:Nat}{cs:List Value}{x:DataW H×List MemPlace}(hf:DataW.trod enc Tryz.prog W 0 (fun _=>true) true fuel 25 cs=some x):∃y:Sb,cs=sbC y:=by
 obtain⟨xs,m,_,_,hl,hlen,hg⟩:=DataW.trod_struct Tryz.underlying25 hf;rw[oCellsSub]at hl
 match cs,hl with
 | [c0,c1,c2],_=>
  have h0:DataW.trod enc Tryz.prog W 0 (fun _=>true) true m 9 (([c0,c1,c2].drop 0).take (Tryz.prog.cellsOf 9))=xs[0]? :=hg 0 _ rfl;have h1:DataW.trod enc Tryz.prog W 0 (fun _=>true) true m 9 (([c0,c1,c2].drop 1).take (Tryz.prog.cellsOf 9))=xs[1]? :=hg 1 _ rfl;have h2:DataW.trod enc Tryz.prog W 0 (fun _=>true) true m 3 (([c0,c1,c2].drop 2).take (Tryz.prog.cellsOf 3))=xs[2]? :=hg 2 _ rfl;have hx:xs.length=3:=hlen;rw[oCellsStr,List.getElem?_eq_getElem (by omega)]at h0 h1;rw[oCellsInt,List.getElem?_eq_getElem (by omega)]at h2;obtain⟨s,e0,_⟩:=DataW.trod_string oUndStr h0;obtain⟨t,e1,_⟩:=DataW.trod_string oUndStr h1;obtain⟨n,e2,_,_⟩:=DataW.trod_int oUndInt h2;simp at e0 e1 e2;subst e0 e1 e2;exact⟨⟨s.data.toList,t.data.toList,n⟩,by unfold sbC;rw[←str_back,←str_back]⟩
end

instance:Inhabited (Int×Sb):=⟨(0,⟨[], [],0⟩)⟩
section
variable {H:Type} {enc:TypeId×Value→H} {W:World}
set_option maxRecDepth 100000 in
theorem act_of_trod {fuel:Nat}{cs:List Value}{x:DataW H×List MemPlace}(hf:DataW.trod enc Tryz.prog W 0 (fun _=>true) true fuel 27 cs=some x):∃y:Int×Sb,cs=acC y:=by
 obtain⟨xs,m,_,_,hl,hlen,hg⟩:=DataW.trod_struct Tryz.underlying27 hf;rw[oCellsAct]at hl
 match cs,hl with
 | [c0,c1,c2,c3],_=>
  have h0:DataW.trod enc Tryz.prog W 0 (fun _=>true) true m 3 (([c0,c1,c2,c3].drop 0).take (Tryz.prog.cellsOf 3))=xs[0]? :=hg 0 _ rfl;have h1:DataW.trod enc Tryz.prog W 0 (fun _=>true) true m 25 (([c0,c1,c2,c3].drop 1).take (Tryz.prog.cellsOf 25))=xs[1]? :=hg 1 _ rfl;have hx:xs.length=2:=hlen;rw[oCellsInt,List.getElem?_eq_getElem (by omega)]at h0;rw[oCellsSub,List.getElem?_eq_getElem (by omega)]at h1;obtain⟨n,e0,_,_⟩:=DataW.trod_int oUndInt h0;obtain⟨y,e1⟩:=sub_of_trod h1;simp at e0;have e1: [c1,c2,c3]=sbC y:=e1;subst e0;exact⟨(n,y),by unfold acC;rw[←e1];rfl⟩
set_option maxRecDepth 100000 in
theorem open_acts {v:Value}{d:DataW H}{p:List MemPlace}(h:DataW.Trod enc Tryz.prog W 0 (fun _=>true) true 23 v d p)(hs:∃a len cap,v= .slice a len cap):
  ∃A c l,v= .slice A l.length c∧ListG W 4 acC A l∧(l.length=0∨∃el sp,d= .slice el sp∧el.length=l.length):=by
 obtain⟨a',len',cap',rfl⟩:=hs;obtain⟨fuel,hf⟩:=h
 rcases open_slice oUndActs (show DataW.trod enc Tryz.prog W 0 (fun _=>true) true fuel 23 [.slice a' len' cap']=some (d,p)from hf)with⟨hcs,_⟩ | ⟨a,len,cap,m,n,D,Pl,hcs,_,hl,_,hmm,hd,hx⟩
 ·injection hcs with e
  exact⟨none,0, [],e,ListG.nil _ _ _ _,.inl rfl⟩
 ·injection hcs with e
  simp only[if_true]at hmm;subst hmm;injection hd with hd
  obtain⟨l,hlen,hg⟩:=listG_of (W:=W) (f:=acC) encAc (a:=a) (len:=len) (fun i hi=>by
   obtain⟨cs,h1,h2⟩:=hx i (by omega);rw[oCellsAct]at h1;obtain⟨y,rfl⟩:=act_of_trod h2;obtain⟨_,_,hc⟩:=World.cells?_some h1;refine⟨y,fun j hj=> ?_⟩;have g:=hc j hj;rw[Addr.add_add]at g;exact g)
  exact⟨some a,m,l,by rw[hlen];exact e,hg,.inr ⟨_,_,hd,by simp[hlen]⟩⟩
end
end Go.Proofs.YtoadlafdeoklbaaGreatDoor
