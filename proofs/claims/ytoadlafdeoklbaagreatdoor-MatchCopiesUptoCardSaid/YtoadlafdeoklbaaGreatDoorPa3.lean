/- Maps whose keys are texts, told key by key by a function; a range over one. Package utf, plain: which bytes are a text that may be said. Package utf, plain: texts that may be said, put together and cut at bytes below 128. Package topic, plain: levels, names, filters, what meets. -/
import Derived.Test.YtoadlafdeoklbaaGreatDoorPa2
import Derived.Maps.OwnSet
import Derived.Maps.Ext
import Derived.Maps.Range
import Derived.Maps.RangeWalk
import Derived.Sort.KeysCollected
import Derived.StringKeys
import Derived.Lib.SplitLaws

namespace Go.Proofs.YtoadlafdeoklbaaGreatDoor
open Go.RowKit Go.Maps

/-- A text as a key. -/
abbrev txk (x:List UInt8):Value:= .string ⟨x.toArray⟩
/-- What a datum is, key by key. -/
structure TellS (D:DataW Value)(f:List UInt8→Option Value):Prop where
 at_:∀x v,f x=some v→∀zd,D.atKey (.string x) zd= .held v
 no:∀x,f x=none→∀zd,D.atKey (.string x) zd=zd
theorem TellS.has {D:DataW Value}{f:List UInt8→Option Value}(h:TellS D f)(x:List UInt8):Maps.has D (.string x)=(f x).isSome:=by
 cases hf:f x with
 | none=>exact has_false_of_atKey (h.no x hf)
 | some v=>exact has_true_of_atKey (h.at_ x v hf)
/-- Another value at a key. -/
def updS (f:List UInt8→Option Value)(x:List UInt8)(o:Option Value):List UInt8→Option Value:=fun y=>if y=x then o else f y
theorem updS_same (f:List UInt8→Option Value)(x:List UInt8)(o:Option Value):updS f x o x=o:=if_pos rfl
theorem updS_other {f:List UInt8→Option Value}{x y:List UInt8}(o:Option Value)(h:y≠x):updS f x o y=f y:=if_neg h
theorem isKey_txt (x:List UInt8):WideAt.IsKeyLit (.string x):=by first | trivial | exact rfl | simp[WideAt.IsKeyLit]
theorem TellS.put {D:DataW Value}{f:List UInt8→Option Value}(h:TellS D f)(hD:IsMap D)(x:List UInt8)(v:Value):TellS (D.put (.string x) (.held v)) (updS f x (some v)):=by
 refine⟨fun y u hy zd=> ?_,fun y hy zd=> ?_⟩
 ·by_cases e:y=x
  ·subst e
   rw[updS_same]at hy;obtain rfl:=Option.some.inj hy;exact atKey_put_same hD (isKey_txt y) _ _
  ·rw[updS_other _ e]at hy
   rw[atKey_put_other (by simpa using e)];exact h.at_ y u hy zd
 ·by_cases e:y=x
  ·subst e
   rw[updS_same]at hy
   cases hy
  ·rw[updS_other _ e]at hy
   rw[atKey_put_other (by simpa using e)];exact h.no y hy zd
theorem TellS.del {D:DataW Value}{f:List UInt8→Option Value}(h:TellS D f)(x:List UInt8):TellS (D.del (.string x)) (updS f x none):=by
 refine⟨fun y u hy zd=> ?_,fun y hy zd=> ?_⟩
 ·by_cases e:y=x
  ·subst e
   rw[updS_same]at hy
   cases hy
  ·rw[updS_other _ e]at hy
   rw[atKey_del_other (by simpa using e)];exact h.at_ y u hy zd
 ·by_cases e:y=x
  ·subst e
   exact atKey_del_same _
  ·rw[updS_other _ e]at hy
   rw[atKey_del_other (by simpa using e)];exact h.no y hy zd
theorem nodup_leS {α:Type} [DecidableEq α]:∀(l ks:List α),l.Nodup→(∀x∈l,x∈ks)→l.length≤ks.length
 | [],ks,_,_=>by simp
 | a::l,ks,hn,hs=>by
  obtain⟨h1,h2⟩:=List.nodup_cons.1 hn;have:=nodup_leS l (ks.erase a) h2 fun x hx=>(List.mem_erase_of_ne (fun e=>h1 (by rw[←e];exact hx))).2 (hs x (by simp[hx]))
  rw[List.length_erase_of_mem (hs a (by simp))]at this;have:=List.length_pos_of_mem (hs a (by simp));simp only[List.length_cons];omega

section
variable {P:Program} {k e t:TypeId} {w w' :World} {b n:Nat} {f:List UInt8→Option Value}
/-- Block b is a map that f tells. -/
def SMap (w:World)(P:Program)(k:TypeId)(b:Nat)(f:List UInt8→Option Value):Prop:=∃D:DataW Value,HMap w P k b (Maps.size D) D∧TellS D f
theorem HMap.tightS {D:DataW Value}(h:HMap w P k b n D):HMap w P k b (Maps.size D) D:=by
 obtain⟨es,clock,hb,F,_,rfl⟩:=h;exact⟨es,clock,hb,F,by simp[Maps.size,length_sorted],rfl⟩
theorem SMap.keep {S:List Nat}(h:SMap w P k b f)(hk:Keeps w w' S)(hb:b∉S):SMap w' P k b f:=by
 obtain⟨D,h1,h2⟩:=h;exact⟨D,h1.keep hk hb,h2⟩
theorem SMap.keeps (h:SMap w P k b f)(hk:Keeps w w' []):SMap w' P k b f:=h.keep hk (by simp)
theorem SMap.lt (h:SMap w P k b f):b < w.heap.size:=by
 obtain⟨D,h1,_⟩:=h;exact World.ownsMap.lt h1
theorem SMap.congr {g:List UInt8→Option Value}(h:SMap w P k b f)(hg:∀x,f x=g x):SMap w P k b g:=by
 have:f=g:=funext hg;exact this▸h
/-- The keys. -/
theorem tellS_keys {D:DataW Value}(hk:P.underlying k=some .string)(h:HMap w P k b n D)(hT:TellS D f):∃ks:List (List UInt8),ks.Nodup∧(∀x,x∈ks↔f x≠none)∧ks.length=Maps.size D:=by
 obtain⟨es,hD,hpw,_⟩:=World.ownsMap.entries h (string_keyed hk);obtain⟨es',hD',hko⟩:=World.ownsMap.keysOf h;obtain rfl:es=es' :=by rw[hD]at hD';simpa using hD'
 have hstr:∀p∈es,∃x,p.1= .string x:=fun p hp=>by
  obtain⟨v,hv⟩:=hko p hp;obtain⟨x,_,hx,_⟩:=Maps.keyOf_str hk hv;exact⟨x,hx⟩
 refine⟨strKeys (.map es:DataW Value), ?_,fun x=> ?_, ?_⟩
 ·show(es.map fun p=>strOf p.1).Nodup
  refine List.pairwise_map.2 (hpw.imp_of_mem fun{p q} hp' hq' hne e=>hne ?_);obtain⟨a,ha⟩:=hstr p hp';obtain⟨c,hc⟩:=hstr q hq';rw[ha,hc]at e ⊢
  exact congrArg _ e
 ·have hh:Maps.has D (.string x)=(f x).isSome:=hT.has x
  rw[hD,has_eq]at hh
  constructor
  ·intro hx
   have h3:x∈es.map fun p=>strOf p.1:=hx
   obtain⟨p,hp,hpx⟩:=List.mem_map.1 h3;obtain⟨a,ha⟩:=hstr p hp;rw[ha]at hpx;have h4:es.any (fun p=>p.1.sameKey (.string x))=true:=by
    rw[List.any_eq_true];refine⟨p,hp, ?_⟩;rw[ha];have:a=x:=hpx;rw[this];simp[Lit.sameKey]
   rw[h4]at hh;intro e;rw[e]at hh
   cases hh
  ·intro hf
   have h4:(f x).isSome=true:=by
    cases h:f x with
    | none=>exact absurd h hf
    | some v=>rfl
   rw[h4,List.any_eq_true]at hh;obtain⟨p,hp,hq⟩:=hh;have h5:=WideAt.sameKey_eq hq;show x∈es.map fun p=>strOf p.1
   exact List.mem_map.2 ⟨p,hp,by rw[h5];rfl⟩
 ·rw[hD]
  show(es.map fun p=>strOf p.1).length=es.length;simp
theorem SMap.size {D:DataW Value}(hk:P.underlying k=some .string)(h:HMap w P k b n D)(hT:TellS D f){ks:List (List UInt8)}(hs:∀x,f x≠none→x∈ks):Maps.size D≤ks.length:=by
 obtain⟨l,h1,h2,h3⟩:=tellS_keys hk h hT;rw[←h3];exact nodup_leS _ _ h1 fun x hx=>hs x ((h2 x).1 hx)
theorem keyOf_txt (hk:P.underlying k=some .string){x:List UInt8}(hx:x.length≤maxLen):keyOf P k (txk x)=some (.string x):=WideMaps.keyOf_string_mk hk (s:=⟨x.toArray⟩) (by show x.toArray.size≤_;simpa using hx)
theorem SMap.look (h:SMap w P k b f)(hk:P.underlying k=some .string)(ht:P.underlying t=some (.map k e)){z:Value}(hz:(zeroValue e).run P w= .ok z w){x:List UInt8}(hx:x.length≤maxLen)(c:Bool):
  (Instr.lookup t (.map (some b)) (txk x) c).run P w= .ok (if c then .tuple #[(f x).getD z,.bool (f x).isSome]else(f x).getD z) w:=by
 obtain⟨D,hD,hT⟩:=h;have hkey:=keyOf_txt hk hx
 cases hf:f x with
 | none=>exact hD.missing (string_keyed hk) ht hz hkey (hT.no x hf) c
 | some v=>exact hD.there (string_keyed hk) ht hz hkey (hT.at_ x v hf) c
/-- A store. -/
theorem SMap.store (h:SMap w P k b f)(hk:P.underlying k=some .string)(ht:P.underlying t=some (.map k e)){ks:List (List UInt8)}(hs:∀x,f x≠none→x∈ks)(hl:ks.length < maxLen){x:List UInt8}(hx:x.length≤maxLen)(v:Value):
  ∃w',(Instr.mapUpdate t (.map (some b)) (txk x) v).run P w= .ok () w' ∧SMap w' P k b (updS f x (some v))∧Keeps w w' [b]∧w.mapTurned w' b:=by
 obtain⟨D,hD,hT⟩:=h;have hkey:=keyOf_txt hk hx;have hsz:=SMap.size hk hD hT hs;obtain⟨w',g1,g2,g3⟩:=World.ownsMap.store (R:=heldR) hD (string_keyed hk) ht (by omega) hkey (d:= .held v) (ps:= []) rfl;refine⟨w',g1,⟨_,HMap.tightS g2,hT.put (World.ownsMap.isMap hD) x v⟩, ?_,g3⟩;exact Keeps.of_grown (row:=some b) g3.grown
theorem SMap.drop (h:SMap w P k b f)(hk:P.underlying k=some .string)(ht:P.underlying t=some (.map k e)){x:List UInt8}(hx:x.length≤maxLen)(ty:TypeId):
  ∃w',(Builtin.delete_ #[t,k] ty #[.map (some b),txk x]).run P w= .ok (.tuple #[]) w' ∧SMap w' P k b (updS f x none)∧Keeps w w' [b]∧w.mapTurned w' b:=by
 obtain⟨D,hD,hT⟩:=h;have hkey:=keyOf_txt hk hx;obtain⟨w',g1,g2,g3⟩:=World.ownsMap.drop (R:=heldR) hD (string_keyed hk) ht hkey ty;exact⟨w',g1,⟨_,HMap.tightS g2,hT.del x⟩,Keeps.of_grown (row:=some b) g3.grown,g3⟩
theorem SMap.made (w:World)(P:Program)(k:TypeId):SMap (w.alloc (.map #[] 0)) P k w.heap.size fun _=>none:=
 ⟨.map [],World.ownsMap_made w P k heldR,⟨(fun _ _ h=>by cases h),fun _ _ _=>rfl⟩⟩
/-- A range over a map, under way: the keys that are left. -/
def SRange (w:World)(P:Program)(k:TypeId)(b r:Nat)(f:List UInt8→Option Value)(left:List (List UInt8)):Prop:=
 ∃(n:Nat) (D:DataW Value) (lf:Lit→Bool) (cnt:Nat),w.ranges P k heldR b r n D lf cnt∧TellS D f∧left.Nodup∧(∀x,lf (.string x)=true↔x∈left)∧∀x∈left,f x≠none
theorem SMap.range (h:SMap w P k b f)(hk:P.underlying k=some .string)(ht:P.underlying t=some (.map k e)):
  ∃(w' :World) (L:List (List UInt8)),(Instr.range t (.map (some b))).run P w= .ok (.pointer (some ⟨w.heap.size,0,none⟩)) w' ∧SRange w' P k b w.heap.size f L∧(∀x,x∈L↔f x≠none)∧Keeps w w' []∧w'.heap.size=w.heap.size+1:=by
 obtain⟨D,hD,hT⟩:=h;obtain⟨ks,h1,h2,_⟩:=tellS_keys hk hD hT;obtain⟨w',g1,g2,g3,g4⟩:=World.ownsMap.range hD (string_keyed hk) ht;refine⟨w',ks,g1,⟨_,D,_,_,g2,hT,h1,fun x=> ?_,fun x hx=>(h2 x).1 hx⟩,h2,Keeps.of_grown g3,g4⟩;rw[hT.has,h2]
 cases f x <;> simp
theorem SRange.keep {S:List Nat}{r:Nat}{L:List (List UInt8)}(h:SRange w P k b r f L)(hk:Keeps w w' S)(hb:b∉S)(hr:r∉S):SRange w' P k b r f L:=by
 obtain⟨n,D,lf,cnt,hrg,h2⟩:=h;have hlr:=World.ranges.lt hrg;have hlb:=World.ownsMap.lt (World.ranges.owns hrg);refine⟨n,D,lf,cnt, ?_,h2⟩;obtain⟨es,clock,since,seen,c0,e1,F,e2,e3,e4,e5⟩:=hrg;exact⟨es,clock,since,seen,c0,(hk.block b hlb hb).trans e1,F,e2,e3,(hk.block r hlr hr).trans e4,e5⟩
theorem SRange.keeps {r:Nat}{L:List (List UInt8)}(h:SRange w P k b r f L)(hk:Keeps w w' []):SRange w' P k b r f L:=h.keep hk (by simp) (by simp)
theorem SRange.left_keep {S:List Nat}{r:Nat}{L:List (List UInt8)}(h:SRange w P k b r f L)(hk:Keeps w w' S)(hb:b∉S)(hr:r∉S):w'.rangeLeft b r=w.rangeLeft b r:=by
 obtain⟨n,D,lf,cnt,hrg,h2⟩:=h;have hlr:=World.ranges.lt hrg;have hlb:=World.ownsMap.lt (World.ranges.owns hrg);unfold World.rangeLeft;rw[hk.block b hlb hb,hk.block r hlr hr]
/-- The step. -/
theorem SRange.next {r:Nat}{L:List (List UInt8)}(h:SRange w P k b r f L)(hk:P.underlying k=some .string):
  (L= []∧∀ty,(Instr.next (.pointer (some ⟨r,0,none⟩)) false ty).run P w= .ok (.tuple #[.bool false]) w)∨
  ∃(x:List UInt8) (v:Value) (w' :World),x∈L∧f x=some v∧x.length≤maxLen∧(∀ty,(Instr.next (.pointer (some ⟨r,0,none⟩)) false ty).run P w= .ok (.tuple #[.bool true,txk x,v]) w')∧
   SRange w' P k b r f (L.erase x)∧w'.rangeLeft b r < w.rangeLeft b r∧Keeps w w' [r]∧w'.heap.size=w.heap.size∧(Instr.entry (.pointer (some ⟨r,0,none⟩))).run P w' = .ok (.tuple #[txk x,v]) w' :=by
 obtain⟨n,D,lf,cnt,hrg,hT,hN,hL,hF⟩:=h;have hlc:=World.ranges.left_eq hrg
 rcases World.ranges.next hrg (string_keyed hk) 0 with⟨_,hall,hrun⟩ | ⟨key,v,kl,y,w5,cnt5,hkey,hleft,hR,hat,hrun,hrg5,hlt5,hgr5,hsz,hen⟩
 ·refine .inl ⟨List.eq_nil_iff_forall_not_mem.2 fun x hx=> ?_,fun _=>hrun⟩
  have:=(hL x).2 hx;rw[hall]at this
  cases this
 ·obtain⟨x,rfl,rfl,hx⟩:=Maps.keyOf_str hk hkey
  simp only[heldR,Option.some.injEq]at hR;subst hR;have hm:=(hL x).1 hleft;have hfx:f x=some v:=by
   cases hf:f x with
   | none=>exact absurd hf (hF x hm)
   | some u=>
    have h1:=hT.at_ x u hf .nil;have h2:=hat .nil;rw[h1]at h2;injection h2 with h2
    rw[h2]
  refine .inr ⟨x,v,w5,hm,hfx,hx,fun _=>hrun,⟨n,D,_,cnt5,hrg5,hT,hN.erase _,fun z=> ?_,fun z hz=>hF z (List.mem_of_mem_erase hz)⟩,by rw[World.ranges.left_eq hrg5,hlc];exact hlt5,Keeps.of_grown hgr5,hsz,hen⟩;rw[hN.mem_erase_iff,Bool.and_eq_true,hL z];have hsk:(Lit.string z).sameKey (.string x)=decide (z=x):=by
   by_cases e:z=x
   ·subst e
    simp[Lit.sameKey]
   ·simp[Lit.sameKey,e]
  rw[hsk];simp[and_comm]
end
end Go.Proofs.YtoadlafdeoklbaaGreatDoor

namespace Go.Proofs.YtoadlafdeoklbaaGreatDoor

def u8 (n:Nat):UInt8:=UInt8.ofNat n
/-- The bytes of a rune. -/
def uRaw (r:Nat):List UInt8:=
 if r < 128 then [u8 r]
 else if r < 2048 then [u8 (192+r / 64),u8 (128+r % 64)]
 else if r < 65536 then [u8 (224+r / 4096),u8 (128+r / 64 % 64),u8 (128+r % 64)]
 else [u8 (240+r / 262144),u8 (128+r / 4096 % 64),u8 (128+r / 64 % 64),u8 (128+r % 64)]
/-- A rune that may be, and is not 0. -/
def uMay (r:Nat):Prop:=0 < r∧(r < 55296∨(57343 < r∧r≤1114111))
instance (r:Nat):Decidable (uMay r):=by unfold uMay;infer_instance
/-- Six bits more. -/
def uMore (r:Nat)(l:List UInt8):Nat:=l.foldl (fun r x=>64*r+x.toNat % 64) r
/-- The lead of a rune of so many bytes, and what is above it. -/
def uLead (n:Nat):Nat:=if n=2 then 192 else if n=3 then 224 else if n=4 then 240 else 0
def uMost (n:Nat):Nat:=if n=2 then 224 else if n=3 then 240 else if n=4 then 248 else 128
/-- The rune of so many bytes, read in the reference's way. -/
def uDec (l:List UInt8):Nat:=match l with
 | []=>0
 | a::t=>uMore (a.toNat - uLead l.length) t
/-- Bytes are a rune's that may be. -/
def uHit (l:List UInt8):Prop:=∃r,uMay r∧uRaw r=l
theorem toNat_u8 {n:Nat}(h:n < 256):(u8 n).toNat=n:=by
 unfold u8;rw[UInt8.toNat_ofNat'];omega
theorem uRaw_len (r:Nat):(uRaw r).length=if r < 128 then 1 else if r < 2048 then 2 else if r < 65536 then 3 else 4:=by
 unfold uRaw
 split
 ·rfl
 ·split
  ·rfl
  ·split <;> rfl
theorem uDec_raw {r:Nat}(h:uMay r):uDec (uRaw r)=r:=by
 obtain⟨h0,h1⟩:=h;unfold uRaw
 split
 ·rename_i h2
  simp only[uDec,uMore,uLead,List.length_cons,List.length_nil,List.foldl_nil];rw[toNat_u8 (by omega)];simp
 ·split
  ·simp only[uDec,uMore,uLead,List.length_cons,List.length_nil,List.foldl_cons,List.foldl_nil]
   rw[toNat_u8 (by omega),toNat_u8 (by omega)];simp;omega
  ·split
   ·simp only[uDec,uMore,uLead,List.length_cons,List.length_nil,List.foldl_cons,List.foldl_nil]
    rw[toNat_u8 (by omega),toNat_u8 (by omega),toNat_u8 (by omega)];simp;omega
   ·simp only[uDec,uMore,uLead,List.length_cons,List.length_nil,List.foldl_cons,List.foldl_nil]
    rw[toNat_u8 (by omega),toNat_u8 (by omega),toNat_u8 (by omega),toNat_u8 (by omega)];simp;omega
/-- The lead byte of a rune. -/
theorem uRaw_lead {r:Nat}(h:uMay r):∃a t,uRaw r=a::t∧uLead (uRaw r).length≤a.toNat∧a.toNat < uMost (uRaw r).length:=by
 obtain⟨h0,h1⟩:=h;unfold uRaw
 split
 ·refine⟨_,_,rfl, ?_⟩
  rw[toNat_u8 (by omega)];simp[uLead,uMost];omega
 ·split
  ·refine⟨_,_,rfl, ?_⟩
   rw[toNat_u8 (by omega)];simp[uLead,uMost];omega
  ·split
   ·refine⟨_,_,rfl, ?_⟩
    rw[toNat_u8 (by omega)];simp[uLead,uMost];omega
   ·refine⟨_,_,rfl, ?_⟩
    rw[toNat_u8 (by omega)];simp[uLead,uMost];omega
theorem uHit_iff {l:List UInt8}:uHit l↔uMay (uDec l)∧uRaw (uDec l)=l:=by
 constructor
 ·rintro⟨r,h1,rfl⟩
  rw[uDec_raw h1];exact⟨h1,rfl⟩
 ·rintro⟨h1,h2⟩
  exact⟨_,h1,h2⟩
instance (l:List UInt8):Decidable (uHit l):=decidable_of_iff _ uHit_iff.symm
theorem uHit_len {l:List UInt8}(h:uHit l):1≤l.length∧l.length≤4:=by
 obtain⟨r,_,rfl⟩:=h;rw[uRaw_len]
 split
 ·omega
 ·split
  ·omega
  ·split <;> omega
theorem uHit_lead {l:List UInt8}(h:uHit l):∃a t,l=a::t∧uLead l.length≤a.toNat∧a.toNat < uMost l.length:=by
 obtain⟨r,h1,rfl⟩:=h;exact uRaw_lead h1
/-- How many bytes the first rune has; 0: there is none. -/
def uFirst (s:List UInt8):Nat:=
 if 1≤s.length∧uHit (s.take 1)then 1 else if 2≤s.length∧uHit (s.take 2)then 2 else if 3≤s.length∧uHit (s.take 3)then 3 else if 4≤s.length∧uHit (s.take 4)then 4 else 0
theorem uFirst_len (s:List UInt8):uFirst s≤s.length∧uFirst s≤4:=by
 unfold uFirst
 split
 ·omega
 ·split
  ·omega
  ·split
   ·omega
   ·split <;> omega
theorem uFirst_hit {s:List UInt8}{n:Nat}(h1:1≤n)(h4:n≤4)(hm:∀k,1≤k→k < n→¬(k≤s.length∧uHit (s.take k)))(hn:n≤s.length∧uHit (s.take n)):uFirst s=n:=by
 unfold uFirst
 rcases(show n=1∨n=2∨n=3∨n=4 by omega)with rfl | rfl | rfl | rfl
 ·rw[if_pos hn]
 ·rw[if_neg (hm 1 (by omega) (by omega)),if_pos hn]
 ·rw[if_neg (hm 1 (by omega) (by omega)),if_neg (hm 2 (by omega) (by omega)),if_pos hn]
 ·rw[if_neg (hm 1 (by omega) (by omega)),if_neg (hm 2 (by omega) (by omega)),if_neg (hm 3 (by omega) (by omega)),if_pos hn]
theorem uFirst_none {s:List UInt8}(hm:∀k,1≤k→k < 5→¬(k≤s.length∧uHit (s.take k))):uFirst s=0:=by
 unfold uFirst;rw[if_neg (hm 1 (by omega) (by omega)),if_neg (hm 2 (by omega) (by omega)),if_neg (hm 3 (by omega) (by omega)),if_neg (hm 4 (by omega) (by omega))]
theorem uFirst_pos {s:List UInt8}(h:uFirst s≠0):uHit (s.take (uFirst s)):=by
 unfold uFirst at h ⊢
 split
 ·rename_i h1;exact h1.2
 ·split
  ·rename_i h1;exact h1.2
  ·split
   ·rename_i h1;exact h1.2
   ·split
    ·rename_i h1;exact h1.2
    ·rename_i a b c d
     rw[if_neg a,if_neg b,if_neg c,if_neg d]at h;exact absurd rfl h
/-- May a text be said? -/
def uGoodF:Nat→List UInt8→Bool
 | 0,s=>s.isEmpty
 | f+1,s=>if s.isEmpty then true else if uFirst s=0 then false else uGoodF f (s.drop (uFirst s))
def uGood (s:List UInt8):Bool:=uGoodF s.length s
theorem uGoodF_more {f:Nat}{s:List UInt8}(h:s.length≤f):uGoodF (f+1) s=uGoodF f s:=by
 induction f generalizing s with
 | zero=>
  obtain rfl:s= []:=List.length_eq_zero_iff.1 (by omega);rfl
 | succ f ih=>
  show(if s.isEmpty then true else if uFirst s=0 then false else uGoodF (f+1) (s.drop (uFirst s)))=(if s.isEmpty then true else if uFirst s=0 then false else uGoodF f (s.drop (uFirst s)))
  by_cases h0:uFirst s=0
  ·rw[if_pos h0,if_pos h0]
  ·rw[if_neg h0,if_neg h0,ih (by rw[List.length_drop];omega)]
theorem uGoodF_any {f:Nat}{s:List UInt8}(h:s.length≤f):uGoodF f s=uGood s:=by
 obtain⟨d,rfl⟩:∃d,f=s.length+d:=⟨f - s.length,by omega⟩
 induction d with
 | zero=>rfl
 | succ d ih=>rw[←Nat.add_assoc,uGoodF_more (by omega),ih (by omega)]
theorem uGood_step {s:List UInt8}(h:s≠ []):uGood s=if uFirst s=0 then false else uGood (s.drop (uFirst s)):=by
 have hl:s.length≠0:=fun e=>h (List.length_eq_zero_iff.1 e)
 rw[←uGoodF_any (Nat.le_succ s.length),uGoodF,if_neg (by cases s <;> simp at h ⊢)]
 split
 ·rfl
 ·rw[uGoodF_any (by rw[List.length_drop];omega)]

theorem uHit_ascii {a:UInt8}(h0:0 < a.toNat)(h:a.toNat < 128):uHit [a]:=⟨a.toNat,⟨h0,.inl (by omega)⟩,by
 unfold uRaw;rw[if_pos h]
 congr 1
 unfold u8;exact UInt8.ofNat_toNat⟩
theorem uFirst_ascii {a:UInt8}{s:List UInt8}(h0:0 < a.toNat)(h:a.toNat < 128):uFirst (a::s)=1:=
 uFirst_hit (by omega) (by omega) (fun k h1 h2=>by omega) ⟨by simp,by simpa using uHit_ascii h0 h⟩
theorem uGood_ascii {a:UInt8}{s:List UInt8}(h0:0 < a.toNat)(h:a.toNat < 128):uGood (a::s)=uGood s:=by
 rw[uGood_step (by simp),uFirst_ascii h0 h,if_neg (by omega)];rfl
theorem uFirst_more {s t:List UInt8}(h:uFirst s≠0):uFirst (s++t)=uFirst s:=by
 have hl:=uFirst_len s;obtain⟨n,hn⟩:∃n,uFirst s=n:=⟨_,rfl⟩;rw[hn]at h hl ⊢
 have hh:uHit (s.take n):=by rw[←hn];exact uFirst_pos (by rw[hn];exact h)
 refine uFirst_hit (by omega) hl.2 (fun k h1 h2 hk=> ?_) ⟨by rw[List.length_append];omega,by rw[List.take_append_of_le_length hl.1];exact hh⟩;rw[List.take_append_of_le_length (by omega)]at hk;have:uFirst s≤k:=by
  unfold uFirst
  rcases(show k=1∨k=2∨k=3 by omega)with rfl | rfl | rfl
  ·rw[if_pos ⟨by omega,hk.2⟩];omega
  ·split
   ·omega
   ·rw[if_pos ⟨by omega,hk.2⟩];omega
  ·split
   ·omega
   ·split
    ·omega
    ·rw[if_pos ⟨by omega,hk.2⟩];omega
 omega
/-- Bytes behind the first one of a rune are no ASCII. -/
theorem uHit_tail {l:List UInt8}(h:uHit l){i:Nat}{a:UInt8}(hi:1≤i)(ha:l[i]? =some a):128≤a.toNat:=by
 obtain⟨r,⟨h0,h1⟩,rfl⟩:=h;have k:∀n:Nat,128≤(u8 (128+n % 64)).toNat:=fun n=>by rw[toNat_u8 (by omega)];omega
 unfold uRaw at ha
 split at ha
 ·rw[List.getElem?_eq_none (by simp;omega)]at ha;cases ha
 ·split at ha
  ·rcases(show i=1∨2≤i by omega)with rfl | hi2
   ·simp at ha;rw[←ha];exact k _
   ·rw[List.getElem?_eq_none (by simp;omega)]at ha;cases ha
  ·split at ha
   ·rcases(show i=1∨i=2∨3≤i by omega)with rfl | rfl | hi2
    ·simp at ha;rw[←ha];exact k _
    ·simp at ha;rw[←ha];exact k _
    ·rw[List.getElem?_eq_none (by simp;omega)]at ha;cases ha
   ·rcases(show i=1∨i=2∨i=3∨4≤i by omega)with rfl | rfl | rfl | hi2
    ·simp at ha;rw[←ha];exact k _
    ·simp at ha;rw[←ha];exact k _
    ·simp at ha;rw[←ha];exact k _
    ·rw[List.getElem?_eq_none (by simp;omega)]at ha;cases ha
theorem uFirst_cut {s t:List UInt8}{a:UInt8}(ha:a.toNat < 128)(hs:s≠ [])(h:uFirst (s++a::t)≠0):uFirst (s++a::t)=uFirst s:=by
 have hp:=uFirst_pos h;obtain⟨n,hn⟩:∃n,uFirst (s++a::t)=n:=⟨_,rfl⟩;have hsl:1≤s.length:=by
  have:=mt List.length_eq_zero_iff.1 hs;omega
 have hns:n≤s.length:=by
  rcases Nat.lt_or_ge s.length n with hlt | hge
  ·rw[hn]at hp
   have:=uHit_tail hp (i:=s.length) (a:=a) hsl (by rw[List.getElem?_take_of_lt hlt];simp);omega
  ·exact hge
 rw[hn]at hp h;rw[List.take_append_of_le_length hns]at hp;have h4:=uHit_len hp;rw[List.length_take]at h4;have hs0:uFirst s≠0:=by
  intro e;have hl:=uFirst_len (s++a::t);unfold uFirst at e;have:n=1∨n=2∨n=3∨n=4:=by omega
  rcases this with rfl | rfl | rfl | rfl
  ·rw[if_pos ⟨by omega,hp⟩]at e;omega
  ·split at e
   ·omega
   ·rw[if_pos ⟨by omega,hp⟩]at e;omega
  ·split at e
   ·omega
   ·split at e
    ·omega
    ·rw[if_pos ⟨by omega,hp⟩]at e;omega
  ·split at e
   ·omega
   ·split at e
    ·omega
    ·split at e
     ·omega
     ·rw[if_pos ⟨by omega,hp⟩]at e;omega
 exact uFirst_more hs0
theorem uGood_cut {s t:List UInt8}{a:UInt8}(h0:0 < a.toNat)(ha:a.toNat < 128)(h:uGood (s++a::t)=true):uGood s=true∧uGood t=true:=by
 obtain⟨m,hm⟩:∃m,s.length≤m:=⟨_,Nat.le_refl _⟩
 induction m generalizing s with
 | zero=>
  obtain rfl:s= []:=List.length_eq_zero_iff.1 (by omega);rw[List.nil_append,uGood_ascii h0 ha]at h;exact⟨rfl,h⟩
 | succ m ih=>
  by_cases hs:s= []
  ·subst hs
   rw[List.nil_append,uGood_ascii h0 ha]at h;exact⟨rfl,h⟩
  ·rw[uGood_step (by simp)]at h
   by_cases e:uFirst (s++a::t)=0
   ·rw[if_pos e]at h;cases h
   ·rw[if_neg e]at h
    have e2:=uFirst_cut ha hs e;rw[e2]at e h;rw[List.drop_append_of_le_length (uFirst_len s).1]at h;have:=ih h (by rw[List.length_drop];omega);rw[uGood_step hs,if_neg e];exact this
theorem uGood_all_ascii {s:List UInt8}(h:∀a∈s,0 < a.toNat∧a.toNat < 128):uGood s=true:=by
 induction s with
 | nil=>rfl
 | cons a s ih=>
  rw[uGood_ascii (h a (by simp)).1 (h a (by simp)).2];exact ih fun b hb=>h b (List.mem_cons_of_mem _ hb)
end Go.Proofs.YtoadlafdeoklbaaGreatDoor

namespace Go.Proofs.YtoadlafdeoklbaaGreatDoor
open Go

/-- The levels of a text. -/
def tLev:List UInt8→List (List UInt8)
 | []=> [[]]
 | a::s=>if a=47 then []::tLev s else match tLev s with
  | []=> [[a]]
  | l::ls=>(a::l)::ls
theorem tLev_ne (s:List UInt8):tLev s≠ []:=by
 cases s with
 | nil=>simp[tLev]
 | cons a s=>
  unfold tLev
  split
  ·simp
  ·split <;> simp
theorem tLev_other {a:UInt8}{s:List UInt8}(h:a≠47):∃l ls,tLev s=l::ls∧tLev (a::s)=(a::l)::ls:=by
 cases hs:tLev s with
 | nil=>exact absurd hs (tLev_ne s)
 | cons l ls=>exact⟨l,ls,rfl,by rw[tLev,if_neg h,hs]⟩
theorem index_one (a:UInt8)(s:List UInt8):Lib.index (a::s) [47]=if a=47 then 0 else if Lib.index s [47]= -1 then -1 else Lib.index s [47]+1:=by
 rw[Lib.index]
 by_cases h:a=47
 ·subst h
  simp[List.isPrefixOf]
 ·have h' :([47]:List UInt8).isPrefixOf (a::s)=false:=by
   have:((47:UInt8)==a)=false:=by simpa using fun e=>h e.symm
   simp[List.isPrefixOf,this]
  rw[h',if_neg Bool.false_ne_true,if_neg h]
  by_cases hi:Lib.index s [47]= -1
  ·rw[if_pos (beq_iff_eq.2 hi),if_pos hi]
  ·rw[if_neg (fun e=>hi (beq_iff_eq.1 e)),if_neg hi]
theorem split_lev (s:List UInt8):Lib.split s [47]=tLev s:=by
 induction s with
 | nil=>rfl
 | cons a s ih=>
  unfold Lib.split at ih ⊢
  by_cases h:a=47
  ·subst h
   rw[Lib.count_cons_eq,Nat.add_comm,Lib.splitK,tLev,if_pos rfl,index_one,if_pos rfl,←ih];rfl
  ·rw[Lib.count_cons_ne a 47 s h]
   obtain⟨l,ls,e1,e2⟩:=tLev_other (s:=s) h;rw[e2];rw[e1]at ih
   cases hk:Lib.count s [47]with
   | zero=>
    rw[hk,Lib.splitK]at ih;rw[Lib.splitK];injection ih with i1 i2
    rw[i1,i2]
   | succ k=>
    rw[hk,Lib.splitK]at ih;rw[Lib.splitK,index_one,if_neg h];have hge:=Lib.index_ge s [47]
    by_cases hi:Lib.index s [47]= -1
    ·rw[if_pos (beq_iff_eq.2 hi)]at ih
     rw[if_pos hi,if_pos (show((-1:Int)== -1)=true from rfl)];injection ih with i1 i2
     rw[i1,i2]
    ·rw[if_neg (fun e=>hi (beq_iff_eq.1 e))]at ih
     rw[if_neg hi,if_neg (fun e=>by have:=beq_iff_eq.1 e;omega)];injection ih with i1 i2
     obtain⟨m,hm⟩:∃m:Nat,Lib.index s [47]=m:=⟨(Lib.index s [47]).toNat,by omega⟩;rw[hm]at i1 i2 ⊢
     have e3:((m:Int)+1).toNat=m+1:=by omega
     have e4:((m:Int)).toNat=m:=by omega
     rw[e3];rw[e4]at i1 i2;rw[Nat.add_zero,zts,←i1,←i2,Nat.add_zero,List.length_singleton,zds];simp
/-- Has a text a sign? -/
def tSign (s:List UInt8):Bool:=s.any fun b=>b==43 || b==35
/-- May it be said, and has it a fitting length? -/
def tSaid (s:List UInt8):Bool:=decide (1≤s.length) && decide (s.length≤200) && uGood s
def tName (s:List UInt8):Bool:=tSaid s && !tSign s
/-- Is a level right: the last one, if it is so told? -/
def tOk (x:List UInt8)(last:Bool):Bool:=x== [43] || (x== [35] && last) || !tSign x
def tOks:List (List UInt8)→Bool
 | []=>true
 | [x]=>tOk x true
 | x::y::l=>tOk x false && tOks (y::l)
def tFilter (s:List UInt8):Bool:=tSaid s && tOks (tLev s)
/-- Do levels of a filter meet those of a name? -/
def tMeetL:List (List UInt8)→List (List UInt8)→Bool
 | [],n=>n.isEmpty
 | f::fs,n=>if f= [35]then true else match n with
  | []=>false
  | x::ns=>(f== [43] || f==x) && tMeetL fs ns
/-- May a filter meet a name that begins so? -/
def tStarts (f n:List UInt8):Bool:= !(([36]:List UInt8).isPrefixOf n) || (!(([43]:List UInt8).isPrefixOf f) && !(([35]:List UInt8).isPrefixOf f))
def tMeets (f n:List UInt8):Bool:=tStarts f n && tMeetL (tLev f) (tLev n)
/-- Do levels meet all that others meet? -/
def tWithL:List (List UInt8)→List (List UInt8)→Bool
 | a, []=>a.isEmpty
 | a,b::bs=>if b= [35]then true else match a with
  | []=>false
  | x::az=>if x= [35]then false else(b== [43] || x==b) && tWithL az bs
def tWide (a:List UInt8):List (List UInt8):=if a= [35]∨a= [47,35]then(tLev a).dropLast++ [[43], [35]]else tLev a
def tWithin (a b:List UInt8):Bool:=tStarts b a && tWithL (tWide a) (tLev b)
theorem tLev_len (s:List UInt8):(tLev s).length≤s.length+1:=by
 induction s with
 | nil=>simp[tLev]
 | cons a s ih=>
  by_cases h:a=47
  ·rw[tLev,if_pos h];simp;omega
  ·obtain⟨l,ls,e1,e2⟩:=tLev_other (s:=s) h
   rw[e2];rw[e1]at ih;simp at ih ⊢
   omega
theorem tLev_size {s:List UInt8}{x:List UInt8}(h:x∈tLev s):x.length≤s.length:=by
 induction s generalizing x with
 | nil=>simp[tLev]at h;subst h;simp
 | cons a s ih=>
  by_cases e:a=47
  ·rw[tLev,if_pos e]at h
   rcases List.mem_cons.1 h with rfl | h
   ·simp
   ·have:=ih h;simp;omega
  ·obtain⟨l,ls,e1,e2⟩:=tLev_other (s:=s) e
   rw[e2]at h
   rcases List.mem_cons.1 h with rfl | h
   ·have:=ih (x:=l) (by rw[e1];simp)
    simp;omega
   ·have:=ih (x:=x) (by rw[e1];exact List.mem_cons_of_mem _ h)
    simp;omega
/-- What is left of a name's levels behind some of a filter's. -/
def mtRun:List (List UInt8)→List (List UInt8)→Option (List (List UInt8))
 | [],n=>some n
 | f::fs,n=>if f= [35]then none else match n with
  | []=>none
  | x::ns=>if(f== [43] || f==x)=true then mtRun fs ns else none
theorem tMeetL_cons (f:List UInt8)(fs n:List (List UInt8)):tMeetL (f::fs) n=if f= [35]then true else match n with
  | []=>false
  | x::ns=>(f== [43] || f==x) && tMeetL fs ns:=by cases n <;> rfl
end Go.Proofs.YtoadlafdeoklbaaGreatDoor
