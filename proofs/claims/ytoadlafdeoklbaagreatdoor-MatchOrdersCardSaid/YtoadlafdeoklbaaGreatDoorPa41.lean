/- Law 14, plain: entries that are set in another order. -/
import Derived.Test.YtoadlafdeoklbaaGreatDoorPa38

namespace Go.Proofs.YtoadlafdeoklbaaGreatDoor
open Go

/-- Entries of another key. -/
def mtDiff (a b:Sb):Prop:=¬(a.f=b.f∧a.c=b.c)
/-- An entry laid over those of its key. -/
def mtUpd (s x:Sb):Sb:=if x.f=s.f∧x.c=s.c then s else x
theorem upd_key (s x:Sb):(mtUpd s x).f=x.f∧(mtUpd s x).c=x.c:=by
 unfold mtUpd
 split
 ·rename_i h
  exact⟨h.1.symm,h.2.symm⟩
 ·exact⟨rfl,rfl⟩
/-- What stands, and what is kept. -/
structure KeptOk (L K:List Sb):Prop where
 mem:∀x,x∈L↔x∈K
 diff:K.Pairwise mtDiff
 val:∀x∈K,mtVal x=true
theorem KeptOk.nil:KeptOk [] []:=⟨fun _=>Iff.rfl,List.Pairwise.nil,fun _ h=>by cases h⟩
theorem KeptOk.add {L K:List Sb}(h:KeptOk L K){s:Sb}(hv:mtVal s=true)(hn:mtHas L s.f s.c=false):KeptOk (mtSet L s) (K++ [s]):=by
 have hno:∀x∈L,¬(x.f=s.f∧x.c=s.c):=fun x hx e=>by
  rw[←Bool.not_eq_true,mtHas_iff]at hn;exact hn ⟨x,hx,e⟩
 refine⟨fun x=> ?_, ?_,fun x hx=> ?_⟩
 ·rw[mem_mtSet,List.mem_append,List.mem_singleton,←h.mem x]
  constructor
  ·rintro(rfl | ⟨h1,_⟩)
   ·exact .inr rfl
   ·exact .inl h1
  ·rintro(h1 | rfl)
   ·exact .inr ⟨h1,hno x h1⟩
   ·exact .inl rfl
 ·rw[List.pairwise_append]
  exact⟨h.diff,List.pairwise_singleton _ _,fun a ha b hb=>by
   rw[List.mem_singleton.1 hb];exact hno a ((h.mem a).2 ha)⟩
 ·rcases List.mem_append.1 hx with hx | hx
  ·exact h.val x hx
  ·rw[List.mem_singleton.1 hx]
   exact hv
theorem KeptOk.upd {L K:List Sb}(h:KeptOk L K){s:Sb}(hv:mtVal s=true)(hy:mtHas L s.f s.c=true):KeptOk (mtSet L s) (K.map (mtUpd s)):=by
 refine⟨fun x=> ?_, ?_,fun x hx=> ?_⟩
 ·rw[mem_mtSet,List.mem_map]
  constructor
  ·rintro(rfl | ⟨h1,h2⟩)
   ·obtain⟨y,hy1,hy2⟩:=mtHas_iff.1 hy
    exact⟨y,(h.mem y).1 hy1,by unfold mtUpd;rw[if_pos hy2]⟩
   ·exact⟨x,(h.mem x).1 h1,by unfold mtUpd;rw[if_neg h2]⟩
  ·rintro⟨y,h1,rfl⟩
   unfold mtUpd
   split
   ·exact .inl rfl
   ·rename_i h2
    exact .inr ⟨(h.mem y).2 h1,h2⟩
 ·rw[List.pairwise_map]
  refine h.diff.imp fun{a b} hab=> ?_
  unfold mtDiff at*;rw[(upd_key s a).1,(upd_key s a).2,(upd_key s b).1,(upd_key s b).2];exact hab
 ·obtain⟨y,h1,rfl⟩:=List.mem_map.1 hx
  unfold mtUpd
  split
  ·exact hv
  ·exact h.val y h1
theorem allA_mem:∀(M L:List Sb),MtOk L→L.length+M.length < 4096→(∀x∈M,mtVal x=true)→M.Pairwise mtDiff→(∀x∈M,∀y∈L,mtDiff x y)→∀x,x∈mtAllA L M↔x∈L∨x∈M
 | [],L,_,_,_,_,_=>fun x=>by simp[mtAllA]
 | s::M,L,hL,hl,hv,hd,ho=>fun x=>by
  rw[List.length_cons]at hl;have hs:=hv s (by simp);have h1:=setA_len hL s;have hd2:=List.pairwise_cons.1 hd;have e:(mtSetA L s).1=mtSet L s:=by rw[setA_yes hs (by omega)]
  have ih:=allA_mem M (mtSetA L s).1 (hL.setA s) (by omega) (fun x hx=>hv x (by simp[hx])) hd2.2 (fun x hx y hy=>by
   rw[e,mem_mtSet]at hy
   rcases hy with rfl | ⟨hy,_⟩
   ·exact fun h=>hd2.1 x hx ⟨h.1.symm,h.2.symm⟩
   ·exact ho x (by simp[hx]) y hy) x
  show x∈mtAllA (mtSetA L s).1 M↔_;rw[ih,e,mem_mtSet,List.mem_cons]
  constructor
  ·rintro((rfl | ⟨h,_⟩) | h)
   ·exact .inr (.inl rfl)
   ·exact .inl h
   ·exact .inr (.inr h)
  ·rintro(h | rfl | h)
   ·exact .inl (.inr ⟨h,fun e=>ho s (by simp) x h ⟨e.1.symm,e.2.symm⟩⟩)
   ·exact .inl (.inl rfl)
   ·exact .inr h
/-- Set the other way round, the same stands. -/
theorem kept_back {L K:List Sb}(hL:MtOk L)(h:KeptOk L K)(hl:K.length < 4096):mtAllA [] K.reverse=L:=by
 have h1:=(allA_ok MtOk.nil K.reverse).1;refine SbUp.ext h1.up hL.up fun x=> ?_
 rw[allA_mem K.reverse [] MtOk.nil (by simpa using hl) (fun x hx=>h.val x (by simpa using hx)) (by
  rw[List.pairwise_reverse];exact h.diff.imp fun{a b} hab e=>hab ⟨e.1.symm,e.2.symm⟩) (fun _ _ _ hy=>by cases hy) x,h.mem x]
 simp
/-- An entry that is set and dropped leaves all as it was. -/
theorem set_drop {L:List Sb}(hL:MtOk L)(hl:L.length < 4096){s:Sb}(hv:mtVal s=true)(hn:mtHas L s.f s.c=false):mtDropA (mtSet L s) s.f s.c=(L,true,0):=by
 have h1:tFilter s.f=true∧mtSubOk s=true:=by unfold mtVal at hv;rwa [Bool.and_eq_true]at hv
 have hno:∀x∈L,¬(x.f=s.f∧x.c=s.c):=fun x hx e=>by
  rw[←Bool.not_eq_true,mtHas_iff]at hn;exact hn ⟨x,hx,e⟩
 have h3:MtOk (mtSet L s):=by
  have:=hL.setA s
  rwa [setA_yes hv hl]at this
 rw[dropA_ok h1.1 (by have:=h1.2;unfold mtSubOk at this;rw[Bool.and_eq_true]at this;exact this.1)];have e1:mtDrop (mtSet L s) s.f s.c=L:=by
  refine SbUp.ext (h3.up.drop _ _) hL.up fun x=> ?_
  rw[mem_mtDrop,mem_mtSet]
  constructor
  ·rintro⟨rfl | ⟨h,_⟩,h2⟩
   ·exact absurd ⟨rfl,rfl⟩ h2
   ·exact h
  ·exact fun h=>⟨.inr ⟨h,hno x h⟩,hno x h⟩
 have e2:mtHas (mtSet L s) s.f s.c=true:=mtHas_iff.2 ⟨s,mem_mtSet.2 (.inl rfl),rfl,rfl⟩;rw[e1,e2]
end Go.Proofs.YtoadlafdeoklbaaGreatDoor
