/- Reference 13: meets, Meets. -/
import Derived.Test.YtoadlafdeoklbaaGreatDoorPa21

namespace Go.Proofs.YtoadlafdeoklbaaGreatDoor
open Go.RowKit Go.Shelf

set_option maxRecDepth 100000 in
set_option maxHeartbeats 2000000 in
theorem rMeetsL_any (la:List (List UInt8)):∀(lb:List (List UInt8)) (w:World) (A B:Option Addr) (c d:Nat) (_:Lies w w.heap.size A (txL la)) (_:Lies w w.heap.size B (txL lb)) (_:la.length≤c) (_:lb.length≤d),
  Calls Tryz.prog 46 #[.slice A la.length c,.slice B lb.length d] w (TruePost w (tMeetL la lb)):=by
 induction la with
 | nil=>
  intro lb w A B c d hA hB hc hd
  cases lb with
  | nil=>
   have HT:=zh (show tMeetL [] []=true from rfl)
   go_enter Tryz.func46,Tryz.ntmps46
   go_wp2_with fail
   go_ret;exact⟨by rw[HT.out];rfl,Keeps.refl _ _⟩
  | cons x xs=>
   have HT:=zh (show tMeetL [] (x::xs)=false from rfl);have n1:(((xs.length:Int)+1)==0)=false:=by simp only[beq_eq_false_iff_ne];omega
   go_enter Tryz.func46,Tryz.ntmps46
   go_wp2_with fail
   go_ret;exact⟨by rw[HT.out];rfl,Keeps.refl _ _⟩
 | cons f fs ih=>
  intro lb w A B c d hA hB hc hd;obtain⟨ga,oa,rfl,hga,hca⟩:=hA (by simp);have ha0:w.cell? ⟨ga,oa,none⟩=some (.string ⟨f.toArray⟩):=by
   have:=hca 0 _ rfl
   rwa [Nat.add_zero]at this
  obtain⟨X,hX⟩:∃S:ByteArray,(⟨f.toArray⟩:ByteArray)=S:=⟨_,rfl⟩;have eX:X.toList=f:=by rw[←hX,Lib.toList_data]
  have n2:(((fs.length:Int)+1)==0)=false:=by simp only[beq_eq_false_iff_ne];omega
  have p2:(0:Int) < (fs.length:Int)+1:=by omega
  rw[hX]at ha0
  by_cases h35:f= [35]
  ·have HT:=zh (show tMeetL (f::fs) lb=true by rw[tMeetL_cons,if_pos h35])
   have e35:(X.toList== [35])=true:=by rw[eX,h35];rfl
   clear hB hA ih h35 eX hX hca hga
   go_enter Tryz.func46,Tryz.ntmps46
   go_wp2_with fail
   go_ret;exact⟨by rw[HT.out];rfl,Keeps.refl _ _⟩
  ·have e35:(X.toList== [35])=false:=by rw[eX];simpa using h35
   cases lb with
   | nil=>
    have HT:=zh (show tMeetL (f::fs) []=false by rw[tMeetL_cons,if_neg h35]);clear hB hA ih h35 eX hX hca hga
    go_enter Tryz.func46,Tryz.ntmps46
    go_wp2_with fail
    go_ret;exact⟨by rw[HT.out];rfl,Keeps.refl _ _⟩
   | cons x xs=>
    obtain⟨gb,ob,rfl,hgb,hcb⟩:=hB (by simp);have hb0:w.cell? ⟨gb,ob,none⟩=some (.string ⟨x.toArray⟩):=by
     have:=hcb 0 _ rfl
     rwa [Nat.add_zero]at this
    obtain⟨Y,hY⟩:∃S:ByteArray,(⟨x.toArray⟩:ByteArray)=S:=⟨_,rfl⟩;have eY:Y.toList=x:=by rw[←hY,Lib.toList_data]
    rw[hY]at hb0;have n1:(((xs.length:Int)+1)==0)=false:=by simp only[beq_eq_false_iff_ne];omega
    have HT:=zh (show tMeetL (f::fs) (x::xs)=((f== [43] || f==x) && tMeetL fs xs)by rw[tMeetL_cons,if_neg h35]);have HI:=zh (show∀W,Keeps w W []→Calls Tryz.prog 46 #[.slice (if c=1 then some ⟨ga,oa,none⟩else some ⟨ga,oa+1,none⟩) fs.length (c - 1),.slice (if d=1 then some ⟨gb,ob,none⟩else some ⟨gb,ob+1,none⟩) xs.length (d - 1)] W (TruePost W (tMeetL fs xs))from fun W hk=>by
     have q1:=lies_tail (hA.below (hk.below (Nat.le_refl _) (by simp)) |>.mono hk.size) hc;have q2:=lies_tail (hB.below (hk.below (Nat.le_refl _) (by simp)) |>.mono hk.size) hd;exact ih xs W _ _ _ _ q1.1 q2.1 q1.2 q2.2)
    have MA:=fun(W' :World) (hW:Keeps w W' [])=>(hW.cell (p:=⟨ga,oa,none⟩) hga (by simp)).trans ha0
    have MB:=fun(W' :World) (hW:Keeps w W' [])=>(hW.cell (p:=⟨gb,ob,none⟩) hgb (by simp)).trans hb0
    obtain⟨t,ht⟩:∃t,tMeetL fs xs=t:=⟨_,rfl⟩;rw[ht]at HT HI;obtain⟨b1,h1⟩:∃b1,(f== [43])=b1:=⟨_,rfl⟩;obtain⟨b2,h2⟩:∃b2,(f==x)=b2:=⟨_,rfl⟩;rw[h1,h2]at HT;have f1:(X.toList== [43])=b1:=by rw[eX];exact h1
    have f2:(X.toList==Y.toList)=b2:=by rw[eX,eY];exact h2
    have l1:(1:Int)≤(fs.length:Int)+1:=by omega
    have l2:(1:Int)≤(xs.length:Int)+1:=by omega
    clear hB hA ih h35 eX hX eY hY hca hga hcb hgb h1 h2 ht
    cases b1 with
    | true=>
     go_enter Tryz.func46,Tryz.ntmps46
     go_wp2_with fail
     refine wp_region_keeps _ (by kernel_rfl) rfl (by kernel_rfl) ?_
     iterate 2
      refine ls ?_;simp only[addEnt]
     apply loose_is
     ·intro W vals hW hkn
      simp only[knows]at hkn
      try simp only[and_true]at hkn
      clear hkn;have m1:=MA W hW;refine⟨?_⟩;simp only[fill];go_simp
      first | exact⟨Keeps.refl _ _,rfl⟩ | exact⟨Keeps.alloc _ _,rfl⟩
     iterate 2
      simp only[addEnt];refine ls ?_
     iterate 7
      simp only[addEnt];refine lo ?_
     iterate 6
      simp only[addEnt];refine ls ?_
     simp only[addEnt];apply loose_is
     ·intro W vals hW hkn
      clear hkn;refine⟨?_⟩;simp only[fill];go_simp;refine looseUpon_calls ?_;exact(HI.out W hW).mono (by rintro e w3 ⟨rfl,hk⟩;exact⟨_,rfl,hk,rfl⟩)
     iterate 2
      simp only[addEnt];refine ls ?_
     simp only[addEnt];refine loose_nil (fun W vals hW hkn=> ?_);simp only[knowsAll]at hkn
     try simp only[and_true]at hkn
     simp only[fill,Act.put,zsa,zsc,zsz];clear hkn MA MB HI
     generalize (if c=1 then(some ⟨ga,oa,none⟩:Option Addr)else some ⟨ga,oa+1,none⟩)=u1
     generalize (if d=1 then(some ⟨gb,ob,none⟩:Option Addr)else some ⟨gb,ob+1,none⟩)=u2
     go_wp2_with fail
     go_ret;exact⟨by rw[HT.out];rfl,hW⟩
    | false=>
     go_enter Tryz.func46,Tryz.ntmps46
     go_wp2_with fail
     refine wp_region_keeps _ (by kernel_rfl) rfl (by kernel_rfl) ?_
     iterate 2
      refine ls ?_;simp only[addEnt]
     apply loose_is
     ·intro W vals hW hkn
      simp only[knows]at hkn
      try simp only[and_true]at hkn
      clear hkn;have m1:=MA W hW;refine⟨?_⟩;simp only[fill];go_simp
      first | exact⟨Keeps.refl _ _,rfl⟩ | exact⟨Keeps.alloc _ _,rfl⟩
     iterate 4
      simp only[addEnt];refine ls ?_
     simp only[addEnt];apply loose_is
     ·intro W vals hW hkn
      simp only[knows]at hkn
      try simp only[and_true]at hkn
      clear hkn;have m1:=MA W hW;refine⟨?_⟩;simp only[fill];go_simp
      first | exact⟨Keeps.refl _ _,rfl⟩ | exact⟨Keeps.alloc _ _,rfl⟩
     iterate 2
      simp only[addEnt];refine ls ?_
     simp only[addEnt];apply loose_is
     ·intro W vals hW hkn
      simp only[knows]at hkn
      try simp only[and_true]at hkn
      clear hkn;have m1:=MB W hW;refine⟨?_⟩;simp only[fill];go_simp
      first | exact⟨Keeps.refl _ _,rfl⟩ | exact⟨Keeps.alloc _ _,rfl⟩
     iterate 3
      simp only[addEnt];refine ls ?_
     simp only[addEnt]
     cases b2 with
     | false=>
      iterate 5
       refine lo ?_;simp only[addEnt]
      iterate 2
       refine ls ?_;simp only[addEnt]
      refine loose_nil (fun W vals hW hkn=> ?_);simp only[knowsAll]at hkn
      try simp only[and_true]at hkn
      simp only[fill,Act.put,zsa,zsc,zsz];clear hkn MA MB
      go_wp2_with fail
      go_ret;exact⟨by rw[HT.out];rfl,hW⟩
     | true=>
      iterate 4
       refine ls ?_;simp only[addEnt]
      apply loose_is
      ·intro W vals hW hkn
       clear hkn;refine⟨?_⟩;simp only[fill];go_simp;refine looseUpon_calls ?_;exact(HI.out W hW).mono (by rintro e w3 ⟨rfl,hk⟩;exact⟨_,rfl,hk,rfl⟩)
      iterate 2
       simp only[addEnt];refine ls ?_
      simp only[addEnt];refine loose_nil (fun W vals hW hkn=> ?_);simp only[knowsAll]at hkn
      try simp only[and_true]at hkn
      simp only[fill,Act.put,zsa,zsc,zsz];clear hkn MA MB HI
      generalize (if c=1 then(some ⟨ga,oa,none⟩:Option Addr)else some ⟨ga,oa+1,none⟩)=u1
      generalize (if d=1 then(some ⟨gb,ob,none⟩:Option Addr)else some ⟨gb,ob+1,none⟩)=u2
      go_wp2_with fail
      go_ret;exact⟨by rw[HT.out];rfl,hW⟩
set_option maxRecDepth 100000 in
set_option maxHeartbeats 2000000 in
theorem rMeets_any (w:World)(f n:List UInt8)(hf:f.length≤60000)(hn:n.length≤60000)(hf0:f≠ [])(hn0:n≠ []):Calls Tryz.prog 14 #[.string ⟨f.toArray⟩,.string ⟨n.toArray⟩] w (TruePost w (tMeets f n)):=by
 obtain⟨F,hF⟩:∃S:ByteArray,(⟨f.toArray⟩:ByteArray)=S:=⟨_,rfl⟩;obtain⟨N,hN⟩:∃S:ByteArray,(⟨n.toArray⟩:ByteArray)=S:=⟨_,rfl⟩;have HS:=zh (show∀w:World,Calls Tryz.prog 47 #[.string F] w (LvPost w f)∧Calls Tryz.prog 47 #[.string N] w (LvPost w n)from fun w=>by
  rw[←hF,←hN];exact⟨rLevels_any w f hf,rLevels_any w n hn⟩)
 have fz:F.size=f.length:=by rw[←hF];rfl
 have nz:N.size=n.length:=by rw[←hN];rfl
 obtain⟨b,f',ef⟩:∃b f',f=b::f' :=List.exists_cons_of_ne_nil hf0;obtain⟨a,n',en⟩:∃a n',n=a::n' :=List.exists_cons_of_ne_nil hn0;have i1:∀h,F[0]'h=b:=fun h=>by
  rw[str_get hF (by rw[ef];simp) h];simp[ef]
 have i2:∀h,N[0]'h=a:=fun h=>by
  rw[str_get hN (by rw[en];simp) h];simp[en]
 have p1:0 < F.size:=by rw[fz,ef];simp
 have p2:0 < N.size:=by rw[nz,en];simp
 have HM:=zh (show tMeets f n=((!(36==a) || (!(43==b) && !(35==b))) && tMeetL (tLev f) (tLev n))by
  unfold tMeets tStarts;rw[ef,en];simp[List.isPrefixOf])
 have HB:=zh (show(tLev f).length≤60001∧(tLev n).length≤60001 by
  have:=tLev_len f;have:=tLev_len n;omega)
 rw[hF,hN];have kb:∀(x:UInt8) (c:Nat),c < 256→((x.toNat:Int)==(c:Int))=(UInt8.ofNat c==x):=fun x c hc=>by
  rw[Bool.eq_iff_iff,beq_iff_eq,beq_iff_eq]
  constructor
  ·intro h
   have h2:x.toNat=c:=by omega
   rw[←h2];exact UInt8.ofNat_toNat
  ·intro h
   rw[←h];simp;omega
 obtain⟨b1,h1⟩:∃b1,((36:UInt8)==a)=b1:=⟨_,rfl⟩;obtain⟨b2,h2⟩:∃b2,((43:UInt8)==b)=b2:=⟨_,rfl⟩;obtain⟨b3,h3⟩:∃b3,((35:UInt8)==b)=b3:=⟨_,rfl⟩;have k1:((a.toNat:Int)==36)=b1:=(kb a 36 (by omega)).trans h1;have k2:((b.toNat:Int)==43)=b2:=(kb b 43 (by omega)).trans h2;have k3:((b.toNat:Int)==35)=b3:=(kb b 35 (by omega)).trans h3;rw[h1,h2,h3]at HM;clear hF hN ef en h1 h2 h3 kb hf0 hn0 hf hn fz nz
 cases b1 with
 | false=>
  go_enter Tryz.func14,Tryz.ntmps14
  go_wp2_with fail
  refine(HS.out _).1.mono ?_;rintro e w1 ⟨A,c,rfl,hc1,hL1,hk1⟩;have H1:=zh (And.intro hL1 (And.intro hk1 hc1));clear hL1 hk1 hc1
  go_wp2_with fail
  refine(HS.out _).2.mono ?_;rintro e w2 ⟨B,d,rfl,hc2,hL2,hk2⟩;have hL1:=H1.out.1.below (hk2.below (Nat.le_refl _) (by simp)) |>.mono hk2.size
  have HC:=zh (rMeetsL_any (tLev f) (tLev n) w2 A B c d hL1 hL2 H1.out.2.2 hc2);have H2:=zh (H1.out.2.1.then_ hk2);clear hL1 hL2 hk2 H1 hc2
  go_wp2_with fail
  refine HC.out.mono ?_;rintro e w3 ⟨rfl,hk3⟩;have H3:=zh (H2.out.then_ hk3);clear hk3
  go_wp2_with fail
  go_ret;exact⟨by rw[HM.out];rfl,H3.out⟩
 | true=>
  cases b2 with
  | true=>
   go_enter Tryz.func14,Tryz.ntmps14
   go_wp2_with fail
   go_ret;exact⟨by rw[HM.out];rfl,Keeps.refl _ _⟩
  | false=>
   cases b3 with
   | true=>
    go_enter Tryz.func14,Tryz.ntmps14
    go_wp2_with fail
    go_ret;exact⟨by rw[HM.out];rfl,Keeps.refl _ _⟩
   | false=>
    go_enter Tryz.func14,Tryz.ntmps14
    go_wp2_with fail
    refine(HS.out _).1.mono ?_;rintro e w1 ⟨A,c,rfl,hc1,hL1,hk1⟩;have H1:=zh (And.intro hL1 (And.intro hk1 hc1));clear hL1 hk1 hc1
    go_wp2_with fail
    refine(HS.out _).2.mono ?_;rintro e w2 ⟨B,d,rfl,hc2,hL2,hk2⟩;have hL1:=H1.out.1.below (hk2.below (Nat.le_refl _) (by simp)) |>.mono hk2.size
    have HC:=zh (rMeetsL_any (tLev f) (tLev n) w2 A B c d hL1 hL2 H1.out.2.2 hc2);have H2:=zh (H1.out.2.1.then_ hk2);clear hL1 hL2 hk2 H1 hc2
    go_wp2_with fail
    refine HC.out.mono ?_;rintro e w3 ⟨rfl,hk3⟩;have H3:=zh (H2.out.then_ hk3);clear hk3
    go_wp2_with fail
    go_ret;exact⟨by rw[HM.out];rfl,H3.out⟩
end Go.Proofs.YtoadlafdeoklbaaGreatDoor
