/- A region that draws its order, inside a fence (a round of a range over a function): each operation met once. Maps whose elements are any values: what is looked up is told by value. Maps whose keys are texts, told key by key by a function; a range over one. -/
import Derived.Test.YtoadlafdeoklbaaDoorPa3
import Derived.OrdersIn
import Derived.OwnWalkIn
import Derived.Maps.Own
import Derived.Maps.OwnSet
import Derived.Maps.Ext
import Derived.Maps.Range
import Derived.Maps.RangeWalk
import Derived.Sort.KeysCollected
import Derived.StringKeys

namespace Go.Proofs.YtoadlafdeoklbaaDoor

theorem callsIn_of {F:Fence}(hF:F.plain=Fence.wide){k:Nat}{P:Program}{f:FuncId}{args:Array Value}{w:World}{S:Ending→World→Prop}(h:Calls P f args w S):CallsIn F k P f args w S:=by
 have h1:CallsIn F.plain k P f args w S:=by rw[hF];exact callsIn_wide.2 h
 exact h1
def deferless (ops:Array Oper):Bool:=ops.all fun o=>match o.op with | .defer _=>false | _=>true
section
variable {P:Program} {R:World→World→Prop} {w0:World} {ops:Array Oper} {vals:Tmp→Value}
end
end Go.Proofs.YtoadlafdeoklbaaDoor

namespace Go.Proofs.YtoadlafdeoklbaaDoor
open Go.RowKit Go.Maps
open Go.WideElems (Fit rd rg pl rd_val)

/-- An element as it is. -/
def heldR (v:Value):Option (DataW Value×List MemPlace):=some (.held v, [])

section
variable {P:Program} {k e t:TypeId} {w w' :World} {b n:Nat} {D:DataW Value}
/-- Block b is a map of at most n entries whose elements D tells. -/
abbrev HMap (w:World)(P:Program)(k:TypeId)(b n:Nat)(D:DataW Value):Prop:=w.ownsMap P k heldR b n D
theorem HMap.keep {S:List Nat}(h:HMap w P k b n D)(hk:Keeps w w' S)(hb:b∉S):HMap w' P k b n D:=by
 have hlt:=h.lt;obtain⟨es,clock,hb',F,hs,hD⟩:=h;exact⟨es,clock,(hk.block b hlt hb).trans hb',F,hs,hD⟩

/-- An element that is there. -/
theorem HMap.there (h:HMap w P k b n D)(K:Keyed P k)(ht:P.underlying t=some (.map k e)){z:Value}(hz:(zeroValue e).run P w= .ok z w){key v:Value}{kl:Lit}(hkey:keyOf P k key=some kl)
  (hat:∀zd,D.atKey kl zd= .held v) (c:Bool):(Instr.lookup t (.map (some b)) key c).run P w= .ok (if c then .tuple #[v,.bool true]else v) w:=by
 obtain⟨es,clock,hb,F,_,rfl⟩:=h
 rcases fit_look c K ht hz hb F hkey with⟨_,_,h2⟩ | ⟨e0,y,_,_,hrun,hR,h2,_⟩
 ·have:=h2 .nil
  rw[hat]at this
  cases this
 ·have h3:=h2 .nil
  rw[hat]at h3;simp only[heldR,Option.some.injEq]at hR;subst hR;injection h3 with h3
  rw[hrun,h3]
/-- One that is not there. -/
theorem HMap.missing (h:HMap w P k b n D)(K:Keyed P k)(ht:P.underlying t=some (.map k e)){z:Value}(hz:(zeroValue e).run P w= .ok z w){key:Value}{kl:Lit}(hkey:keyOf P k key=some kl)
  (hat:∀zd,D.atKey kl zd=zd) (c:Bool):(Instr.lookup t (.map (some b)) key c).run P w= .ok (if c then .tuple #[z,.bool false]else z) w:=by
 obtain⟨es,clock,hb,F,_,rfl⟩:=h
 rcases fit_look c K ht hz hb F hkey with⟨hrun,_,_⟩ | ⟨e0,y,_,_,hrun,hR,h2,_⟩
 ·exact hrun
 ·have h3:=h2 .nil
  rw[hat]at h3;simp only[heldR,Option.some.injEq]at hR;subst hR
  cases h3

end
end Go.Proofs.YtoadlafdeoklbaaDoor

namespace Go.Proofs.YtoadlafdeoklbaaDoor
open Go.RowKit Go.Maps

/-- A text as a key. -/
abbrev txk (x:List UInt8):Value:= .string ⟨x.toArray⟩
/-- What a datum is, key by key. -/
structure TellS (D:DataW Value)(f:List UInt8→Option Value):Prop where
 at_:∀x v,f x=some v→∀zd,D.atKey (.string x) zd= .held v
 no:∀x,f x=none→∀zd,D.atKey (.string x) zd=zd
theorem TellS.has {D:DataW Value}{f:List UInt8→Option Value}(h:TellS D f)(x:List UInt8):Maps.has D (.string x)=(f x).isSome:=by
 cases hf:f x with
 | none=>exact has_false_of_atKey (h.no x hf)
 | some v=>exact has_true_of_atKey (h.at_ x v hf)
/-- Another value at a key. -/
def updS (f:List UInt8→Option Value)(x:List UInt8)(o:Option Value):List UInt8→Option Value:=fun y=>if y=x then o else f y
theorem updS_same (f:List UInt8→Option Value)(x:List UInt8)(o:Option Value):updS f x o x=o:=if_pos rfl
theorem updS_other {f:List UInt8→Option Value}{x y:List UInt8}(o:Option Value)(h:y≠x):updS f x o y=f y:=if_neg h
theorem isKey_txt (x:List UInt8):WideAt.IsKeyLit (.string x):=by first | trivial | exact rfl | simp[WideAt.IsKeyLit]
theorem TellS.put {D:DataW Value}{f:List UInt8→Option Value}(h:TellS D f)(hD:IsMap D)(x:List UInt8)(v:Value):TellS (D.put (.string x) (.held v)) (updS f x (some v)):=by
 refine⟨fun y u hy zd=> ?_,fun y hy zd=> ?_⟩
 ·by_cases e:y=x
  ·subst e
   rw[updS_same]at hy;obtain rfl:=Option.some.inj hy;exact atKey_put_same hD (isKey_txt y) _ _
  ·rw[updS_other _ e]at hy
   rw[atKey_put_other (by simpa using e)];exact h.at_ y u hy zd
 ·by_cases e:y=x
  ·subst e
   rw[updS_same]at hy
   cases hy
  ·rw[updS_other _ e]at hy
   rw[atKey_put_other (by simpa using e)];exact h.no y hy zd
theorem TellS.del {D:DataW Value}{f:List UInt8→Option Value}(h:TellS D f)(x:List UInt8):TellS (D.del (.string x)) (updS f x none):=by
 refine⟨fun y u hy zd=> ?_,fun y hy zd=> ?_⟩
 ·by_cases e:y=x
  ·subst e
   rw[updS_same]at hy
   cases hy
  ·rw[updS_other _ e]at hy
   rw[atKey_del_other (by simpa using e)];exact h.at_ y u hy zd
 ·by_cases e:y=x
  ·subst e
   exact atKey_del_same _
  ·rw[updS_other _ e]at hy
   rw[atKey_del_other (by simpa using e)];exact h.no y hy zd
theorem nodup_leS {α:Type} [DecidableEq α]:∀(l ks:List α),l.Nodup→(∀x∈l,x∈ks)→l.length≤ks.length
 | [],ks,_,_=>by simp
 | a::l,ks,hn,hs=>by
  obtain⟨h1,h2⟩:=List.nodup_cons.1 hn;have:=nodup_leS l (ks.erase a) h2 fun x hx=>(List.mem_erase_of_ne (fun e=>h1 (by rw[←e];exact hx))).2 (hs x (by simp[hx]))
  rw[List.length_erase_of_mem (hs a (by simp))]at this;have:=List.length_pos_of_mem (hs a (by simp));simp only[List.length_cons];omega

section
variable {P:Program} {k e t:TypeId} {w w' :World} {b n:Nat} {f:List UInt8→Option Value}
/-- Block b is a map that f tells. -/
def SMap (w:World)(P:Program)(k:TypeId)(b:Nat)(f:List UInt8→Option Value):Prop:=∃D:DataW Value,HMap w P k b (Maps.size D) D∧TellS D f
theorem HMap.tightS {D:DataW Value}(h:HMap w P k b n D):HMap w P k b (Maps.size D) D:=by
 obtain⟨es,clock,hb,F,_,rfl⟩:=h;exact⟨es,clock,hb,F,by simp[Maps.size,length_sorted],rfl⟩
theorem SMap.keep {S:List Nat}(h:SMap w P k b f)(hk:Keeps w w' S)(hb:b∉S):SMap w' P k b f:=by
 obtain⟨D,h1,h2⟩:=h;exact⟨D,h1.keep hk hb,h2⟩
theorem SMap.keeps (h:SMap w P k b f)(hk:Keeps w w' []):SMap w' P k b f:=h.keep hk (by simp)
theorem SMap.lt (h:SMap w P k b f):b < w.heap.size:=by
 obtain⟨D,h1,_⟩:=h;exact World.ownsMap.lt h1
theorem SMap.congr {g:List UInt8→Option Value}(h:SMap w P k b f)(hg:∀x,f x=g x):SMap w P k b g:=by
 have:f=g:=funext hg;exact this▸h
/-- The keys. -/
theorem tellS_keys {D:DataW Value}(hk:P.underlying k=some .string)(h:HMap w P k b n D)(hT:TellS D f):∃ks:List (List UInt8),ks.Nodup∧(∀x,x∈ks↔f x≠none)∧ks.length=Maps.size D:=by
 obtain⟨es,hD,hpw,_⟩:=World.ownsMap.entries h (string_keyed hk);obtain⟨es',hD',hko⟩:=World.ownsMap.keysOf h;obtain rfl:es=es' :=by rw[hD]at hD';simpa using hD'
 have hstr:∀p∈es,∃x,p.1= .string x:=fun p hp=>by
  obtain⟨v,hv⟩:=hko p hp;obtain⟨x,_,hx,_⟩:=Maps.keyOf_str hk hv;exact⟨x,hx⟩
 refine⟨strKeys (.map es:DataW Value), ?_,fun x=> ?_, ?_⟩
 ·show(es.map fun p=>strOf p.1).Nodup
  refine List.pairwise_map.2 (hpw.imp_of_mem fun{p q} hp' hq' hne e=>hne ?_);obtain⟨a,ha⟩:=hstr p hp';obtain⟨c,hc⟩:=hstr q hq';rw[ha,hc]at e ⊢
  exact congrArg _ e
 ·have hh:Maps.has D (.string x)=(f x).isSome:=hT.has x
  rw[hD,has_eq]at hh
  constructor
  ·intro hx
   have h3:x∈es.map fun p=>strOf p.1:=hx
   obtain⟨p,hp,hpx⟩:=List.mem_map.1 h3;obtain⟨a,ha⟩:=hstr p hp;rw[ha]at hpx;have h4:es.any (fun p=>p.1.sameKey (.string x))=true:=by
    rw[List.any_eq_true];refine⟨p,hp, ?_⟩;rw[ha];have:a=x:=hpx;rw[this];simp[Lit.sameKey]
   rw[h4]at hh;intro e;rw[e]at hh
   cases hh
  ·intro hf
   have h4:(f x).isSome=true:=by
    cases h:f x with
    | none=>exact absurd h hf
    | some v=>rfl
   rw[h4,List.any_eq_true]at hh;obtain⟨p,hp,hq⟩:=hh;have h5:=WideAt.sameKey_eq hq;show x∈es.map fun p=>strOf p.1
   exact List.mem_map.2 ⟨p,hp,by rw[h5];rfl⟩
 ·rw[hD]
  show(es.map fun p=>strOf p.1).length=es.length;simp
theorem SMap.size {D:DataW Value}(hk:P.underlying k=some .string)(h:HMap w P k b n D)(hT:TellS D f){ks:List (List UInt8)}(hs:∀x,f x≠none→x∈ks):Maps.size D≤ks.length:=by
 obtain⟨l,h1,h2,h3⟩:=tellS_keys hk h hT;rw[←h3];exact nodup_leS _ _ h1 fun x hx=>hs x ((h2 x).1 hx)
theorem keyOf_txt (hk:P.underlying k=some .string){x:List UInt8}(hx:x.length≤maxLen):keyOf P k (txk x)=some (.string x):=WideMaps.keyOf_string_mk hk (s:=⟨x.toArray⟩) (by show x.toArray.size≤_;simpa using hx)
theorem SMap.look (h:SMap w P k b f)(hk:P.underlying k=some .string)(ht:P.underlying t=some (.map k e)){z:Value}(hz:(zeroValue e).run P w= .ok z w){x:List UInt8}(hx:x.length≤maxLen)(c:Bool):
  (Instr.lookup t (.map (some b)) (txk x) c).run P w= .ok (if c then .tuple #[(f x).getD z,.bool (f x).isSome]else(f x).getD z) w:=by
 obtain⟨D,hD,hT⟩:=h;have hkey:=keyOf_txt hk hx
 cases hf:f x with
 | none=>exact hD.missing (string_keyed hk) ht hz hkey (hT.no x hf) c
 | some v=>exact hD.there (string_keyed hk) ht hz hkey (hT.at_ x v hf) c
/-- A store. -/
theorem SMap.store (h:SMap w P k b f)(hk:P.underlying k=some .string)(ht:P.underlying t=some (.map k e)){ks:List (List UInt8)}(hs:∀x,f x≠none→x∈ks)(hl:ks.length < maxLen){x:List UInt8}(hx:x.length≤maxLen)(v:Value):
  ∃w',(Instr.mapUpdate t (.map (some b)) (txk x) v).run P w= .ok () w' ∧SMap w' P k b (updS f x (some v))∧Keeps w w' [b]∧w.mapTurned w' b:=by
 obtain⟨D,hD,hT⟩:=h;have hkey:=keyOf_txt hk hx;have hsz:=SMap.size hk hD hT hs;obtain⟨w',g1,g2,g3⟩:=World.ownsMap.store (R:=heldR) hD (string_keyed hk) ht (by omega) hkey (d:= .held v) (ps:= []) rfl;refine⟨w',g1,⟨_,HMap.tightS g2,hT.put (World.ownsMap.isMap hD) x v⟩, ?_,g3⟩;exact Keeps.of_grown (row:=some b) g3.grown
theorem SMap.drop (h:SMap w P k b f)(hk:P.underlying k=some .string)(ht:P.underlying t=some (.map k e)){x:List UInt8}(hx:x.length≤maxLen)(ty:TypeId):
  ∃w',(Builtin.delete_ #[t,k] ty #[.map (some b),txk x]).run P w= .ok (.tuple #[]) w' ∧SMap w' P k b (updS f x none)∧Keeps w w' [b]∧w.mapTurned w' b:=by
 obtain⟨D,hD,hT⟩:=h;have hkey:=keyOf_txt hk hx;obtain⟨w',g1,g2,g3⟩:=World.ownsMap.drop (R:=heldR) hD (string_keyed hk) ht hkey ty;exact⟨w',g1,⟨_,HMap.tightS g2,hT.del x⟩,Keeps.of_grown (row:=some b) g3.grown,g3⟩
theorem SMap.made (w:World)(P:Program)(k:TypeId):SMap (w.alloc (.map #[] 0)) P k w.heap.size fun _=>none:=
 ⟨.map [],World.ownsMap_made w P k heldR,⟨(fun _ _ h=>by cases h),fun _ _ _=>rfl⟩⟩
/-- A range over a map, under way: the keys that are left. -/
def SRange (w:World)(P:Program)(k:TypeId)(b r:Nat)(f:List UInt8→Option Value)(left:List (List UInt8)):Prop:=
 ∃(n:Nat) (D:DataW Value) (lf:Lit→Bool) (cnt:Nat),w.ranges P k heldR b r n D lf cnt∧TellS D f∧left.Nodup∧(∀x,lf (.string x)=true↔x∈left)∧∀x∈left,f x≠none
theorem SMap.range (h:SMap w P k b f)(hk:P.underlying k=some .string)(ht:P.underlying t=some (.map k e)):
  ∃(w' :World) (L:List (List UInt8)),(Instr.range t (.map (some b))).run P w= .ok (.pointer (some ⟨w.heap.size,0,none⟩)) w' ∧SRange w' P k b w.heap.size f L∧(∀x,x∈L↔f x≠none)∧Keeps w w' []∧w'.heap.size=w.heap.size+1:=by
 obtain⟨D,hD,hT⟩:=h;obtain⟨ks,h1,h2,_⟩:=tellS_keys hk hD hT;obtain⟨w',g1,g2,g3,g4⟩:=World.ownsMap.range hD (string_keyed hk) ht;refine⟨w',ks,g1,⟨_,D,_,_,g2,hT,h1,fun x=> ?_,fun x hx=>(h2 x).1 hx⟩,h2,Keeps.of_grown g3,g4⟩;rw[hT.has,h2]
 cases f x <;> simp
theorem SRange.keep {S:List Nat}{r:Nat}{L:List (List UInt8)}(h:SRange w P k b r f L)(hk:Keeps w w' S)(hb:b∉S)(hr:r∉S):SRange w' P k b r f L:=by
 obtain⟨n,D,lf,cnt,hrg,h2⟩:=h;have hlr:=World.ranges.lt hrg;have hlb:=World.ownsMap.lt (World.ranges.owns hrg);refine⟨n,D,lf,cnt, ?_,h2⟩;obtain⟨es,clock,since,seen,c0,e1,F,e2,e3,e4,e5⟩:=hrg;exact⟨es,clock,since,seen,c0,(hk.block b hlb hb).trans e1,F,e2,e3,(hk.block r hlr hr).trans e4,e5⟩
theorem SRange.keeps {r:Nat}{L:List (List UInt8)}(h:SRange w P k b r f L)(hk:Keeps w w' []):SRange w' P k b r f L:=h.keep hk (by simp) (by simp)
theorem SRange.left_keep {S:List Nat}{r:Nat}{L:List (List UInt8)}(h:SRange w P k b r f L)(hk:Keeps w w' S)(hb:b∉S)(hr:r∉S):w'.rangeLeft b r=w.rangeLeft b r:=by
 obtain⟨n,D,lf,cnt,hrg,h2⟩:=h;have hlr:=World.ranges.lt hrg;have hlb:=World.ownsMap.lt (World.ranges.owns hrg);unfold World.rangeLeft;rw[hk.block b hlb hb,hk.block r hlr hr]
/-- The step. -/
theorem SRange.next {r:Nat}{L:List (List UInt8)}(h:SRange w P k b r f L)(hk:P.underlying k=some .string):
  (L= []∧∀ty,(Instr.next (.pointer (some ⟨r,0,none⟩)) false ty).run P w= .ok (.tuple #[.bool false]) w)∨
  ∃(x:List UInt8) (v:Value) (w' :World),x∈L∧f x=some v∧x.length≤maxLen∧(∀ty,(Instr.next (.pointer (some ⟨r,0,none⟩)) false ty).run P w= .ok (.tuple #[.bool true,txk x,v]) w')∧
   SRange w' P k b r f (L.erase x)∧w'.rangeLeft b r < w.rangeLeft b r∧Keeps w w' [r]∧w'.heap.size=w.heap.size∧(Instr.entry (.pointer (some ⟨r,0,none⟩))).run P w' = .ok (.tuple #[txk x,v]) w' :=by
 obtain⟨n,D,lf,cnt,hrg,hT,hN,hL,hF⟩:=h;have hlc:=World.ranges.left_eq hrg
 rcases World.ranges.next hrg (string_keyed hk) 0 with⟨_,hall,hrun⟩ | ⟨key,v,kl,y,w5,cnt5,hkey,hleft,hR,hat,hrun,hrg5,hlt5,hgr5,hsz,hen⟩
 ·refine .inl ⟨List.eq_nil_iff_forall_not_mem.2 fun x hx=> ?_,fun _=>hrun⟩
  have:=(hL x).2 hx;rw[hall]at this
  cases this
 ·obtain⟨x,rfl,rfl,hx⟩:=Maps.keyOf_str hk hkey
  simp only[heldR,Option.some.injEq]at hR;subst hR;have hm:=(hL x).1 hleft;have hfx:f x=some v:=by
   cases hf:f x with
   | none=>exact absurd hf (hF x hm)
   | some u=>
    have h1:=hT.at_ x u hf .nil;have h2:=hat .nil;rw[h1]at h2;injection h2 with h2
    rw[h2]
  refine .inr ⟨x,v,w5,hm,hfx,hx,fun _=>hrun,⟨n,D,_,cnt5,hrg5,hT,hN.erase _,fun z=> ?_,fun z hz=>hF z (List.mem_of_mem_erase hz)⟩,by rw[World.ranges.left_eq hrg5,hlc];exact hlt5,Keeps.of_grown hgr5,hsz,hen⟩;rw[hN.mem_erase_iff,Bool.and_eq_true,hL z];have hsk:(Lit.string z).sameKey (.string x)=decide (z=x):=by
   by_cases e:z=x
   ·subst e
    simp[Lit.sameKey]
   ·simp[Lit.sameKey,e]
  rw[hsk];simp[and_comm]
end
end Go.Proofs.YtoadlafdeoklbaaDoor
