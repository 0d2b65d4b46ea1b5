/- Package match: lists of entries, of those that are told, held against each other. Law 14, plain: what small filters are; the entries of known. -/
import Derived.Test.YtoadlafdeoklbaaDoorPa31
import Derived.Test.YtoadlafdeoklbaaDoorPa8

namespace Go.Proofs.YtoadlafdeoklbaaDoor
open Go.RowKit

theorem take_same {α:Type}{l m:List α}{k:Nat}(hl:k < l.length)(hm:k < m.length)(h:l.take k=m.take k)(he:l[k]=m[k]):l.take (k+1)=m.take (k+1):=by
 rw[List.take_succ_eq_append_getElem hl,List.take_succ_eq_append_getElem hm,h,he]
set_option maxRecDepth 100000 in
set_option maxHeartbeats 2000000 in
theorem mtSameTold_any (w:World)(A B:Option Addr)(c d:Nat)(l m:List (List UInt8×Int))(h1:ListAt w 39 2 tdC A l)(h2:ListAt w 39 2 tdC B m)(hle:l.length≤1000000):
  Calls Tryd.prog 11 #[.slice A l.length c,.slice B m.length d] w (TruePost w (decide (l=m))):=by
 have HH:=zh (And.intro h1 h2);clear h1 h2
 by_cases hlm:(l.length:Int)=(m.length:Int)
 ·have hlb:((l.length:Int) !=(m.length:Int))=false:=by simpa using hlm
  have HLM:=zh (show l.length=m.length by omega);clear hlm
  go_enter Tryd.func11,Tryd.ntmps11
  go_wp2_with fail
  go_loopw [5] (fun i wr=>∃j:Nat,j≤l.length∧i= .int .i64 j∧Hid (l.take j=m.take j∧Keeps w wr [])) (fun i _=>l.length - (intOf i).toNat)
  case atStart=>exact⟨0,by omega,rfl,zh ⟨rfl,Keeps.refl _ _⟩⟩
  case round=>
   obtain⟨j,hj,rfl,HR⟩:=hrel
   by_cases hjl:j < l.length
   ·have hjm:j < m.length:=by have:=HLM.out;omega
    have hjm2:(j:Int) < (m.length:Int):=by omega
    obtain⟨b1,o1,cs1,rfl,hr1,hc1⟩:=HH.out.1 (by omega);obtain⟨b2,o2,cs2,rfl,hr2,hc2⟩:=HH.out.2 (by omega);have HS:=zh (fun h=>take_same hjl hjm HR.out.1 h);have HNE:=zh (show l[j]≠m[j]→l≠m from fun h e=>h (by subst e;rfl));have hc1:=hc1 j hjl;have hc2:=hc2 j hjm
    generalize l[j]=x at*
    generalize m[j]=y at*
    (obtain⟨x1,x2⟩:=x;obtain⟨y1,y2⟩:=y)
    have M0:=fun(W' :World) (hW:Keeps wr W' [])=>((hr1.keeps (HR.out.2.then_ hW)).cell (o1+j*2+0)).trans (hc1 0 (by omega))
    have N0:=fun(W' :World) (hW:Keeps wr W' [])=>((hr2.keeps (HR.out.2.then_ hW)).cell (o2+j*2+0)).trans (hc2 0 (by omega))
    have M1:=fun(W' :World) (hW:Keeps wr W' [])=>((hr1.keeps (HR.out.2.then_ hW)).cell (o1+j*2+1)).trans (hc1 1 (by omega))
    have N1:=fun(W' :World) (hW:Keeps wr W' [])=>((hr2.keeps (HR.out.2.then_ hW)).cell (o2+j*2+1)).trans (hc2 1 (by omega))
    simp only[tdC,zgz,zgs,Nat.add_zero]at M0 N0 M1 N1;clear hc1 hc2 hr1 hr2
    by_cases hxy1:x1=y1
    ·subst hxy1
     by_cases hxy2:x2=y2
     ·subst hxy2
      go_wp2_with fail
      refine wp_region_keeps _ (by kernel_rfl) rfl (by kernel_rfl) ?_
      iterate 3
       refine ls ?_;simp only[addEnt]
      apply loose_is
      ·intro W vals hW hkn
       simp only[knows]at hkn
       try simp only[and_true]at hkn
       clear hkn;have m0:=M0 W hW;have m1:=M1 W hW;refine⟨?_⟩;simp only[fill];go_simp
       first | exact⟨Keeps.refl _ _,rfl⟩ | exact⟨Keeps.alloc _ _,rfl⟩
      iterate 3
       simp only[addEnt];refine ls ?_
      simp only[addEnt];apply loose_is
      ·intro W vals hW hkn
       simp only[knows]at hkn
       try simp only[and_true]at hkn
       clear hkn;have m0:=N0 W hW;have m1:=N1 W hW;refine⟨?_⟩;simp only[fill];go_simp
       first | exact⟨Keeps.refl _ _,rfl⟩ | exact⟨Keeps.alloc _ _,rfl⟩
      simp only[addEnt];refine ls ?_;simp only[addEnt];refine loose_nil (fun W vals hW hkn=> ?_);simp only[knowsAll]at hkn
      try simp only[and_true]at hkn
      simp only[fill,Act.put,zsa,zsc,zsz];clear hkn M0 N0 M1 N1;have HK:=zh (HR.out.2.then_ hW)
      go_wp2_with fail
      exact⟨⟨j+1,by omega,by go_num,zh ⟨HS.out (by first | rfl | trivial),HK.out⟩⟩,by simp[intOf];omega⟩
     ·skip
      have HD:=zh (show decide (l=m)=false from decide_eq_false (HNE.out (fun e=>hxy2 (by injection e))))
      go_wp2_with fail
      refine wp_region_keeps _ (by kernel_rfl) rfl (by kernel_rfl) ?_
      iterate 3
       refine ls ?_;simp only[addEnt]
      apply loose_is
      ·intro W vals hW hkn
       simp only[knows]at hkn
       try simp only[and_true]at hkn
       clear hkn;have m0:=M0 W hW;have m1:=M1 W hW;refine⟨?_⟩;simp only[fill];go_simp
       first | exact⟨Keeps.refl _ _,rfl⟩ | exact⟨Keeps.alloc _ _,rfl⟩
      iterate 3
       simp only[addEnt];refine ls ?_
      simp only[addEnt];apply loose_is
      ·intro W vals hW hkn
       simp only[knows]at hkn
       try simp only[and_true]at hkn
       clear hkn;have m0:=N0 W hW;have m1:=N1 W hW;refine⟨?_⟩;simp only[fill];go_simp
       first | exact⟨Keeps.refl _ _,rfl⟩ | exact⟨Keeps.alloc _ _,rfl⟩
      simp only[addEnt];refine ls ?_;simp only[addEnt];refine loose_nil (fun W vals hW hkn=> ?_);simp only[knowsAll]at hkn
      try simp only[and_true]at hkn
      simp only[fill,Act.put,zsa,zsc,zsz];clear hkn M0 N0 M1 N1;have HK:=zh (HR.out.2.then_ hW)
      go_wp2_with fail
      go_ret;exact⟨by rw[HD.out];rfl,HK.out⟩
    ·skip
     have HD:=zh (show decide (l=m)=false from decide_eq_false (HNE.out (fun e=>hxy1 (by injection e))))
     go_wp2_with fail
     refine wp_region_keeps _ (by kernel_rfl) rfl (by kernel_rfl) ?_
     iterate 3
      refine ls ?_;simp only[addEnt]
     apply loose_is
     ·intro W vals hW hkn
      simp only[knows]at hkn
      try simp only[and_true]at hkn
      clear hkn;have m0:=M0 W hW;have m1:=M1 W hW;refine⟨?_⟩;simp only[fill];go_simp
      first | exact⟨Keeps.refl _ _,rfl⟩ | exact⟨Keeps.alloc _ _,rfl⟩
     iterate 3
      simp only[addEnt];refine ls ?_
     simp only[addEnt];apply loose_is
     ·intro W vals hW hkn
      simp only[knows]at hkn
      try simp only[and_true]at hkn
      clear hkn;have m0:=N0 W hW;have m1:=N1 W hW;refine⟨?_⟩;simp only[fill];go_simp
      first | exact⟨Keeps.refl _ _,rfl⟩ | exact⟨Keeps.alloc _ _,rfl⟩
     simp only[addEnt];refine ls ?_;simp only[addEnt];refine loose_nil (fun W vals hW hkn=> ?_);simp only[knowsAll]at hkn
     try simp only[and_true]at hkn
     simp only[fill,Act.put,zsa,zsc,zsz];clear hkn M0 N0 M1 N1;have HK:=zh (HR.out.2.then_ hW)
     go_wp2_with fail
     go_ret;exact⟨by rw[HD.out];rfl,HK.out⟩
   ·obtain rfl:j=l.length:=by omega
    have HE:=zh (show l=m from by
     have:=HR.out.1;rw[List.take_length,HLM.out,List.take_length]at this;exact this)
    go_wp2_with fail
    go_ret;exact⟨by rw[decide_eq_true HE.out];rfl,HR.out.2⟩
 ·have hlb:((l.length:Int) !=(m.length:Int))=true:=by simpa using hlm
  have HE:=zh (show l≠m from fun e=>hlm (by rw[e]));clear hlm
  go_enter Tryd.func11,Tryd.ntmps11
  go_wp2_with fail
  go_ret;exact⟨by rw[decide_eq_false HE.out];rfl,Keeps.refl _ _⟩
end Go.Proofs.YtoadlafdeoklbaaDoor

namespace Go.Proofs.YtoadlafdeoklbaaDoor
open Go

theorem said_asc {s:List UInt8}(h:∀a∈s,0 < a.toNat∧a.toNat < 128)(h1:1≤s.length)(h2:s.length≤200):tSaid s=true:=by
 unfold tSaid;rw[uGood_all_ascii h,decide_eq_true h1,decide_eq_true h2];rfl
theorem filter_asc {s:List UInt8}(h:∀a∈s,0 < a.toNat∧a.toNat < 128)(h1:1≤s.length)(h2:s.length≤200)(h3:tOks (tLev s)=true):tFilter s=true:=by
 unfold tFilter;rw[said_asc h h1 h2,h3];rfl
theorem name_asc {s:List UInt8}(h:∀a∈s,0 < a.toNat∧a.toNat < 128)(h1:1≤s.length)(h2:s.length≤200)(h3:tSign s=false):tName s=true:=by
 unfold tName;rw[said_asc h h1 h2,h3];rfl
def k1:Sb:=⟨[97,47,43], [120],1⟩
def k2:Sb:=⟨[97,47,35], [120],2⟩
def k3:Sb:=⟨[35], [121],0⟩
theorem k14f1:tFilter [97,47,43]=true:=filter_asc (by decide) (by decide) (by decide) (by decide)
theorem k14f2:tFilter [97,47,35]=true:=filter_asc (by decide) (by decide) (by decide) (by decide)
theorem k14f3:tFilter [35]=true:=filter_asc (by decide) (by decide) (by decide) (by decide)
theorem k14n:tName [97,47,98]=true:=name_asc (by decide) (by decide) (by decide) (by decide)
theorem setA_ok {L:List Sb}{s:Sb}(h1:tFilter s.f=true)(h2:mtSubOk s=true)(h3:L.length < 4096):mtSetA L s=(mtSet L s, !mtHas L s.f s.c,0):=by
 unfold mtSetA;rw[if_neg (by rw[h1];simp),if_neg (by rw[h2];simp),if_neg (by omega)]
theorem dropA_ok {L:List Sb}{f c:List UInt8}(h1:tFilter f=true)(h2:mtCl c=true):mtDropA L f c=(mtDrop L f c,mtHas L f c,0):=by
 unfold mtDropA;rw[if_neg (by rw[h1];simp),if_neg (by rw[h2];simp)]
theorem k14s1:mtSetA [] k1=([k1],true,0):=(setA_ok k14f1 (by decide) (by decide)).trans (by decide)
theorem k14s2:mtSetA [k1] k2=([k2,k1],true,0):=(setA_ok k14f2 (by decide) (by decide)).trans (by decide)
theorem k14s3:mtSetA [k2,k1] k3=([k3,k2,k1],true,0):=(setA_ok k14f3 (by decide) (by decide)).trans (by decide)
theorem k14d:mtDropA [k3,k2,k1] [97,47,35] [120]=([k3,k1],true,0):=(dropA_ok k14f2 (by decide)).trans (by decide)
theorem k14t:mtTold [k3,k2,k1] [97,47,98]= [([120],2),([121],0)]:=by decide
theorem k14m:mtNodes [k3,k2,k1]=4∧mtNodes [k3,k1]=3:=by decide
end Go.Proofs.YtoadlafdeoklbaaDoor
