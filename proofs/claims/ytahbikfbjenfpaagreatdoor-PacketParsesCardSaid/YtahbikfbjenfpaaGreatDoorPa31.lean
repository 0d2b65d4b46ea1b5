/- Package packet, plain: what the reference reads is no longer than what it reads of. -/
import Derived.Test.YtahbikfbjenfpaaGreatDoorPa40
import Derived.Test.YtahbikfbjenfpaaGreatDoorPa58

namespace Go.Proofs.YtahbikfbjenfpaaGreatDoor
open Tryz Go

theorem rS {l s r:aG}(h:cQ l=some (s,r)):s.length<=l.length/\r.length < l.length:=by
 have h1:=mV h;unfold cQ jv at h
 split at h
 ·cases h
 ·rename_i n q hq
  split at hq
  ·injection hq with hq
   injection hq with _ e
   subst e
   split at h
   ·injection h with h
    injection h with e1 e2
    subst e1;refine⟨?_,h1⟩;rw[dq,dQ];omega
   ·cases h
  ·cases hq
theorem vz:∀(n:Nat) (l:aG) (L:List aG),cJ n l=some L->∀s∈L,s.length<=l.length
 | 0,l,L,h=>by
  simp only[cJ,kY]at h;subst h;intro s hs
  cases hs
 | n+1,l,L,h=>by
  simp only[cJ,cj,kY]at h;obtain⟨⟨s,r⟩,h1,q,h2,rfl⟩:=h;intro x hx;have h3:=rS h1
  rcases List.mem_cons.1 hx with rfl | hx
  ·exact h3.1
  ·have:=vz n _ q h2 x hx
   simp only at this;omega
theorem vF {α:Type}{rd:aG->Option (α×aG)}{P:α->Nat->Prop}(hP:∀l a r,rd l=some (a,r)->r.length < l.length/\P a l.length)(hM:∀a m n,P a m->m<=n->P a n):
  ∀(f:Nat) (l:aG) (az:List α),bM rd f l=some az->az.length<=l.length/\∀a∈az,P a l.length:=by
 intro f
 induction f with
 | zero=>
  intro l az h
  cases l with
  | nil=>
   simp only[bM,kY]at h;subst h;exact⟨bE _,λa ha=>by cases ha⟩
  | cons x l=>simp[bM]at h
 | succ f ih=>
  intro l az h
  cases l with
  | nil=>
   simp only[bM,kY]at h;subst h;exact⟨bE _,λa ha=>by cases ha⟩
  | cons x l=>
   simp only[bM,cj,kY]at h;obtain⟨⟨a,r⟩,h1,q,h2,rfl⟩:=h;have h3:=hP _ _ _ h1;have h4:=ih _ _ h2;simp only at h4;refine⟨by rw[du];omega,λb hb=> ?_⟩
   rcases List.mem_cons.1 hb with rfl | hb
   ·exact h3.2
   ·exact hM _ _ _ (h4.2 b hb) (by omega)
theorem wg {L:List aG}{n:Nat}(h:∀s∈L,s.length<=n):(L.headD []).length<=n:=by
 cases L with
 | nil=>simp
 | cons a L=>exact h a (by simp)
theorem zw {L:List aG}{n:Nat}(h:∀s∈L,s.length<=n)(k:Nat):∀s∈L.drop k,s.length<=n:=λs hs=>h s (List.mem_of_mem_drop hs)
/-- What is read fits the reference's checks. -/
structure sS (p:Pk):Prop where
 ts:Ip p
 l:p.wants.length<=1000000/\p.aF.length<=1000000/\p.fs.length<=1000000
theorem sS.z:sS bN:=⟨⟨by simp[bN],by simp[bN],by simp[bN],by simp[bN],by simp[bN],by simp[bN]⟩,by simp[bN]⟩
theorem EM {f:Nat}{kp:Int}{L:List aG}(h:∀s∈L,s.length<=60000):sS (ox f kp L):=by
 have h1:=wg h;have h2:=wg (zw h 1);have h3:=wg (zw (zw h 1) 2);refine⟨⟨by simp[ox,nU,bN],h1, ?_, ?_,by simp[ox,nU,bN],by simp[ox,nU,bN]⟩,by simp[ox,nU,bN]⟩
 ·show(if aH f 4 then(L.drop 1).headD []else []).length<=60000
  split
  ·exact h2
  ·simp
 ·show(if aH f 128 then(if aH f 4 then(L.drop 1).drop 2 else L.drop 1).headD []else []).length<=60000
  split
  ·split
   ·exact h3
   ·exact h2
  ·simp
theorem Gu {k:Int}{f:Nat}{l:aG}{p:Pk}(hl:l.length<=60000)(h:lJ k f l=some p):sS p:=by
 unfold lJ at h
 split at h
 ·unfold mc at h
  split at h
  ·split at h
   ·rw[cj]at h
    obtain⟨L,h1,h2⟩:=h;injection h2 with h2
    subst h2;refine EM λs hs=> ?_
    have:=vz _ _ _ h1 s hs;simp only[du]at hl;omega
   ·cases h
  ·cases h
 split at h
 ·injection h with h
  subst h;unfold D_
  split
  ·exact⟨⟨by simp[bN],by simp[bN],by simp[bN],by simp[bN],by simp[bN],by simp[bN]⟩,by simp[bN]⟩
  ·exact sS.z
 split at h
 ·unfold Ay at h
  rw[cj]at h;obtain⟨⟨s,r⟩,h1,h2⟩:=h;have h3:=(rS h1).1
  split at h2
  ·rw[cj]at h2
   obtain⟨i,_,h2⟩:=h2;injection h2 with h2
   subst h2;exact⟨⟨by show s.length<=_;omega,by simp[bN],by simp[bN],by simp[bN],by simp[bN],by simp[bN]⟩,by simp[bN]⟩
  ·injection h2 with h2
   subst h2;exact⟨⟨by show s.length<=_;omega,by simp[bN],by simp[bN],by simp[bN],by simp[bN],by simp[bN]⟩,by simp[bN]⟩
 split at h
 ·unfold dV at h
  rw[cj]at h;obtain⟨⟨i,r⟩,h0,h⟩:=h;have hr:r.length<=60000:=by
   have:=bJ h0;omega
  split at h
  ·rw[cj]at h
   obtain⟨az,h1,h2⟩:=h;injection h2 with h2
   subst h2;have h3:=vF (P:=λ(a:aG×Int) n=>a.1.length<=n) (λl a r h=>⟨nI h,by
    unfold cU at h;rw[cj]at h;obtain⟨⟨s,q⟩,h4,h5⟩:=h;rw[cj]at h5;obtain⟨⟨m,u⟩,_,h5⟩:=h5;injection h5 with h5
    injection h5 with h5
    subst h5;exact(rS h4).1⟩) (λa m n h1 h2=>cH h1 h2) _ _ _ h1
   simp only at h3;exact⟨⟨by simp[bN],by simp[bN],by simp[bN],by simp[bN],λx hx=>by have:=h3.2 x hx;omega,by simp[bN]⟩,by show az.length<=_;omega,by simp[bN],by simp[bN]⟩
  split at h
  ·rw[cj]at h
   obtain⟨az,h1,h2⟩:=h;injection h2 with h2
   subst h2;have h3:=vF (P:=λ(_:Int) _=>True) (λl a r h=>⟨nM h,trivial⟩) (λ_ _ _ _ _=>trivial) _ _ _ h1;simp only at h3;exact⟨⟨by simp[bN],by simp[bN],by simp[bN],by simp[bN],by simp[bN],by simp[bN]⟩,by simp[bN],by show az.length<=_;omega,by simp[bN]⟩
  ·rw[cj]at h
   obtain⟨az,h1,h2⟩:=h;injection h2 with h2
   subst h2;have h3:=vF (P:=λ(a:aG) n=>a.length<=n) (λl a r h=>⟨(rS h).2,(rS h).1⟩) (λa m n h1 h2=>cH h1 h2) _ _ _ h1;simp only at h3;exact⟨⟨by simp[bN],by simp[bN],by simp[bN],by simp[bN],by simp[bN],λx hx=>by have:=h3.2 x hx;omega⟩,by simp[bN],by simp[bN],by show az.length<=_;omega⟩
 ·injection h with h
  subst h;exact sS.z
end Go.Proofs.YtahbikfbjenfpaaGreatDoor
