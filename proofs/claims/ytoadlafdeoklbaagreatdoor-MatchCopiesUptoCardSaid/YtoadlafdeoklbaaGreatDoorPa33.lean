/- Reference 14: Find. -/
import Derived.Test.YtoadlafdeoklbaaGreatDoorPa32

namespace Go.Proofs.YtoadlafdeoklbaaGreatDoor
open Go.RowKit Go.Maps Go.Shelf

/-- The place of an entry. -/
def FindIs (L:List Sb)(f c:List UInt8)(j:Nat):Prop:=j≤L.length∧(∀x∈L.take j,kLt x.f x.c f c=true)∧∀x∈L.drop j,kLt x.f x.c f c=false
theorem find_end {L:List Sb}{f c:List UInt8}(h:∀x∈L.take L.length,kLt x.f x.c f c=true):FindIs L f c L.length∧mtHas L f c=false:=by
 refine⟨⟨Nat.le_refl _,h,by simp⟩, ?_⟩;rw[←Bool.not_eq_true];intro e;obtain⟨x,hx,h1,h2⟩:=mtHas_iff.1 e;have:=h x (by rw[List.take_length];exact hx);rw[h1,h2,kLt_irrefl]at this
 cases this
theorem find_stop {L:List Sb}{f c:List UInt8}{j:Nat}(hL:SbUp L)(hj:j < L.length)(h:∀x∈L.take j,kLt x.f x.c f c=true)(h2:kLt L[j].f L[j].c f c=false):FindIs L f c j∧mtHas L f c=(L[j].f==f && L[j].c==c):=by
 have hd:L.drop j=L[j]::L.drop (j+1):=List.drop_eq_getElem_cons hj;have hs:∀x∈L.drop (j+1),sbLt L[j] x=true:=by
  have h1:SbUp (L.drop j):=List.Pairwise.sublist (List.drop_sublist _ _) hL;rw[hd]at h1;exact(List.pairwise_cons.1 h1).1
 refine⟨⟨Nat.le_of_lt hj,h,fun x hx=> ?_⟩, ?_⟩
 ·rw[hd]at hx
  rcases List.mem_cons.1 hx with rfl | hx
  ·exact h2
  ·rw[←Bool.not_eq_true]
   intro e;have:=kLt_trans (hs x hx) e;rw[h2]at this
   cases this
 ·rw[Bool.eq_iff_iff,mtHas_iff]
  simp only[Bool.and_eq_true,beq_iff_eq]
  constructor
  ·rintro⟨x,hx,h3,h4⟩
   have h5:x∈L.take j++L.drop j:=by rw[List.take_append_drop];exact hx
   rcases List.mem_append.1 h5 with h5 | h5
   ·have:=h x h5
    rw[h3,h4,kLt_irrefl]at this
    cases this
   ·rw[hd]at h5
    rcases List.mem_cons.1 h5 with rfl | h5
    ·exact⟨h3,h4⟩
    ·have:=hs x h5
     unfold sbLt at this;rw[h3,h4,h2]at this
     cases this
  ·rintro⟨h3,h4⟩
   exact⟨_,List.getElem_mem hj,h3,h4⟩
/-- What Find answers. -/
def FindPost (w:World)(L:List Sb)(f c:List UInt8)(e:Ending)(w' :World):Prop:=Keeps w w' []∧∃j,FindIs L f c j∧e= .returned (.tuple #[.int .i64 (j:Nat),.bool (mtHas L f c)])
set_option maxRecDepth 100000 in
set_option maxHeartbeats 4000000 in
theorem rfFind_any (w:World)(A:Option Addr)(cap:Nat)(L:List Sb)(f c:List UInt8)(hl:ListAt w 25 3 sbC A L)(hL:SbUp L)(hle:L.length≤1000000):
  Calls Tryz.prog 50 #[.slice A L.length cap,.string ⟨f.toArray⟩,.string ⟨c.toArray⟩] w (FindPost w L f c):=by
 have HL:=zh hl;have HU:=zh hL;have HA:=zh (fun w a=>rfAhead_any w a ⟨f,c,0⟩);obtain⟨F,hF⟩:∃S:ByteArray,(⟨f.toArray⟩:ByteArray)=S:=⟨_,rfl⟩;obtain⟨C,hC⟩:∃S:ByteArray,(⟨c.toArray⟩:ByteArray)=S:=⟨_,rfl⟩;have HFC:=zh (And.intro hF hC);unfold sbV at HA;simp only[hF,hC]at HA;rw[hF,hC];clear hl hL hF hC
 go_enter Tryz.func50,Tryz.ntmps50
 go_wp2_with fail
 go_loopw [8] (fun i wr=>∃j:Nat,j≤L.length∧i= .int .i64 j∧Hid ((∀x∈L.take j,kLt x.f x.c f c=true)∧Keeps w wr [])) (fun i _=>L.length - (intOf i).toNat)
 case atStart=>exact⟨0,by omega,rfl,zh ⟨by simp,Keeps.refl _ _⟩⟩
 case round=>
  obtain⟨j,hj,rfl,HR⟩:=hrel
  by_cases hjl:j < L.length
  ·obtain⟨b,o,cs,rfl,hr,hc⟩:=HL.out (by omega)
   have HROW:=zh (show∀W',Keeps w W' []→∀i,i < 3→W'.cell? ⟨b,o+j*3+i,none⟩=(sbC L[j])[i]? from fun W' hW i hi=>((hr.keeps hW).cell _).trans (hc j hjl i hi));have HT:=zh (List.take_succ_eq_append_getElem hjl);have HST:=zh (find_stop HU.out hjl HR.out.1);obtain⟨⟨xf,xc,xq⟩,hx⟩:∃x,L[j]=x:=⟨_,rfl⟩;rw[hx]at HROW HT HST;obtain⟨X,hX⟩:∃S:ByteArray,(⟨xf.toArray⟩:ByteArray)=S:=⟨_,rfl⟩;obtain⟨Y,hY⟩:∃S:ByteArray,(⟨xc.toArray⟩:ByteArray)=S:=⟨_,rfl⟩;have c0:=HROW.out wr HR.out.2 0 (by omega);have c1:=HROW.out wr HR.out.2 1 (by omega);have c2:=HROW.out wr HR.out.2 2 (by omega);simp only[sbC,zgz,zgs,Nat.add_zero,hX,hY]at c0 c1 c2;have HA1:=zh (show Calls Tryz.prog 71 #[.agg #[.string X,.string Y,.int .i64 xq],.agg #[.string F,.string C,.int .i64 0]] wr fun e w' =>e= .returned (.bool (sbLt ⟨xf,xc,xq⟩ ⟨f,c,0⟩))∧Keeps wr w' []from by
    have h:=HA.out wr ⟨xf,xc,xq⟩;simp only[hX,hY]at h;exact h)
   have HXY:=zh (And.intro hX hY);clear hx hr hc hX hY
   cases hz:sbLt ⟨xf,xc,xq⟩ ⟨f,c,0⟩with
   | true=>
    rw[hz]at HA1;have HZ:=zh hz;clear hz
    go_wp2_with fail
    refine HA1.out.mono ?_;rintro e w2 ⟨rfl,hk⟩;have HK:=zh (HR.out.2.then_ hk);clear hk c0 c1 c2 HA1
    go_wp2_with fail
    exact⟨⟨j+1,by omega,by go_num,zh ⟨fun x hx=>by
     rw[HT.out]at hx
     rcases List.mem_append.1 hx with hx | hx
     ·exact HR.out.1 x hx
     ·rw[List.mem_singleton.1 hx]
      exact HZ.out,HK.out⟩⟩,by simp[intOf];omega⟩
   | false=>
    rw[hz]at HA1;have HZ:=zh hz;clear hz
    go_wp2_with fail
    refine HA1.out.mono ?_;rintro e w2 ⟨rfl,hk⟩;have HK:=zh (HR.out.2.then_ hk);clear hk c0 c1 c2 HA1;have M0:=fun(W' :World) (hW:Keeps w2 W' [])=>HROW.out W' (HK.out.then_ hW) 0 (by omega)
    have M1:=fun(W' :World) (hW:Keeps w2 W' [])=>HROW.out W' (HK.out.then_ hW) 1 (by omega)
    simp only[sbC,zgz,zgs,Nat.add_zero,HXY.out.1,HXY.out.2]at M0 M1;have eX:X.toList=xf:=by rw[←HXY.out.1,Lib.toList_data]
    have eY:Y.toList=xc:=by rw[←HXY.out.2,Lib.toList_data]
    have eF:F.toList=f:=by rw[←HFC.out.1,Lib.toList_data]
    have eC:C.toList=c:=by rw[←HFC.out.2,Lib.toList_data]
    have HH:=zh (show FindIs L f c j∧mtHas L f c=(X.toList==F.toList && Y.toList==C.toList)from by rw[eX,eY,eF,eC];exact HST.out HZ.out);clear eX eY eF eC
    cases h1:(X.toList==F.toList)with
    | false=>
     rw[h1]at HH
     go_upto_region 4 with fail
     refine wp_region_keeps _ (by kernel_rfl) rfl (by kernel_rfl) ?_
     iterate 10
      refine ls ?_;simp only[addEnt]
     apply loose_is
     ·intro W vals hW hkn
      simp only[knows]at hkn
      try simp only[and_true]at hkn
      clear hkn;have m:=M0 W hW;refine⟨?_⟩;simp only[fill];go_simp
      first | exact⟨Keeps.refl _ _,rfl⟩ | exact⟨Keeps.alloc _ _,rfl⟩
     iterate 4
      simp only[addEnt];refine ls ?_
     iterate 7
      simp only[addEnt];refine lo ?_
     iterate 3
      simp only[addEnt];refine ls ?_
     simp only[addEnt];refine loose_nil (fun W vals hW hkn=> ?_);simp only[knowsAll]at hkn
     try simp only[and_true]at hkn
     simp only[fill,Act.put,zsa,zsc,zsz];have HW:=zh (HK.out.then_ hW);clear hkn hW M0 M1
     go_wp2_with fail
     go_ret2
     exact⟨HW.out,j,HH.out.1,by rw[HH.out.2];rfl⟩
    | true=>
     rw[h1]at HH;obtain⟨z3,h3⟩:∃z,(Y.toList==C.toList)=z:=⟨_,rfl⟩;rw[h3]at HH
     go_upto_region 4 with fail
     refine wp_region_keeps _ (by kernel_rfl) rfl (by kernel_rfl) ?_
     iterate 10
      refine ls ?_;simp only[addEnt]
     apply loose_is
     ·intro W vals hW hkn
      simp only[knows]at hkn
      try simp only[and_true]at hkn
      clear hkn;have m:=M0 W hW;refine⟨?_⟩;simp only[fill];go_simp
      first | exact⟨Keeps.refl _ _,rfl⟩ | exact⟨Keeps.alloc _ _,rfl⟩
     iterate 8
      simp only[addEnt];refine ls ?_
     simp only[addEnt];apply loose_is
     ·intro W vals hW hkn
      simp only[knows]at hkn
      try simp only[and_true]at hkn
      clear hkn;have m:=M1 W hW;refine⟨?_⟩;simp only[fill];go_simp
      first | exact⟨Keeps.refl _ _,rfl⟩ | exact⟨Keeps.alloc _ _,rfl⟩
     iterate 5
      simp only[addEnt];refine ls ?_
     simp only[addEnt];refine loose_nil (fun W vals hW hkn=> ?_);simp only[knowsAll]at hkn
     try simp only[and_true]at hkn
     simp only[fill,Act.put,zsa,zsc,zsz];have HW:=zh (HK.out.then_ hW);clear hkn hW M0 M1
     go_wp2_with fail
     go_ret2
     exact⟨HW.out,j,HH.out.1,by rw[HH.out.2];rfl⟩
  ·obtain rfl:j=L.length:=by omega
   have HE:=zh (find_end HR.out.1)
   go_upto_region 4 with fail
   refine wp_region_keeps _ (by kernel_rfl) rfl (by kernel_rfl) ?_
   iterate 6
    refine ls ?_;simp only[addEnt]
   iterate 7
    refine lo ?_;simp only[addEnt]
   iterate 2
    refine ls ?_;simp only[addEnt]
   iterate 7
    refine lo ?_;simp only[addEnt]
   iterate 3
    refine ls ?_;simp only[addEnt]
   refine loose_nil (fun W vals hW hkn=> ?_);simp only[knowsAll]at hkn
   try simp only[and_true]at hkn
   simp only[fill,Act.put,zsa,zsc,zsz];have HW:=zh (HR.out.2.then_ hW);clear hkn hW
   go_wp2_with fail
   go_ret2
   exact⟨HW.out,_,HE.out.1,by rw[HE.out.2];rfl⟩
end Go.Proofs.YtoadlafdeoklbaaGreatDoor
