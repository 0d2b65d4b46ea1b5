/- Package match: lists of entries, of those that are told, held against each other. Law 14, plain: what small filters are; the entries of known. Law 14: a book made since a world; known. -/
import Derived.Test.YtoadlafdeoklbaaGreatDoorPa29
import Derived.Test.YtoadlafdeoklbaaGreatDoorPa5

namespace Go.Proofs.YtoadlafdeoklbaaGreatDoor
open Go.RowKit

theorem take_same {α:Type}{l m:List α}{k:Nat}(hl:k < l.length)(hm:k < m.length)(h:l.take k=m.take k)(he:l[k]=m[k]):l.take (k+1)=m.take (k+1):=by
 rw[List.take_succ_eq_append_getElem hl,List.take_succ_eq_append_getElem hm,h,he]
set_option maxRecDepth 100000 in
set_option maxHeartbeats 2000000 in
theorem mtSameTold_any (w:World)(A B:Option Addr)(c d:Nat)(l m:List (List UInt8×Int))(h1:ListAt w 42 2 tdC A l)(h2:ListAt w 42 2 tdC B m)(hle:l.length≤1000000):
  Calls Tryz.prog 16 #[.slice A l.length c,.slice B m.length d] w (TruePost w (decide (l=m))):=by
 have HH:=zh (And.intro h1 h2);clear h1 h2
 by_cases hlm:(l.length:Int)=(m.length:Int)
 ·have hlb:((l.length:Int) !=(m.length:Int))=false:=by simpa using hlm
  have HLM:=zh (show l.length=m.length by omega);clear hlm
  go_enter Tryz.func16,Tryz.ntmps16
  go_wp2_with fail
  go_loopw [5] (fun i wr=>∃j:Nat,j≤l.length∧i= .int .i64 j∧Hid (l.take j=m.take j∧Keeps w wr [])) (fun i _=>l.length - (intOf i).toNat)
  case atStart=>exact⟨0,by omega,rfl,zh ⟨rfl,Keeps.refl _ _⟩⟩
  case round=>
   obtain⟨j,hj,rfl,HR⟩:=hrel
   by_cases hjl:j < l.length
   ·have hjm:j < m.length:=by have:=HLM.out;omega
    have hjm2:(j:Int) < (m.length:Int):=by omega
    obtain⟨b1,o1,cs1,rfl,hr1,hc1⟩:=HH.out.1 (by omega);obtain⟨b2,o2,cs2,rfl,hr2,hc2⟩:=HH.out.2 (by omega);have HS:=zh (fun h=>take_same hjl hjm HR.out.1 h);have HNE:=zh (show l[j]≠m[j]→l≠m from fun h e=>h (by subst e;rfl));have hc1:=hc1 j hjl;have hc2:=hc2 j hjm
    generalize l[j]=x at*
    generalize m[j]=y at*
    (obtain⟨x1,x2⟩:=x;obtain⟨y1,y2⟩:=y)
    have M0:=fun(W' :World) (hW:Keeps wr W' [])=>((hr1.keeps (HR.out.2.then_ hW)).cell (o1+j*2+0)).trans (hc1 0 (by omega))
    have N0:=fun(W' :World) (hW:Keeps wr W' [])=>((hr2.keeps (HR.out.2.then_ hW)).cell (o2+j*2+0)).trans (hc2 0 (by omega))
    have M1:=fun(W' :World) (hW:Keeps wr W' [])=>((hr1.keeps (HR.out.2.then_ hW)).cell (o1+j*2+1)).trans (hc1 1 (by omega))
    have N1:=fun(W' :World) (hW:Keeps wr W' [])=>((hr2.keeps (HR.out.2.then_ hW)).cell (o2+j*2+1)).trans (hc2 1 (by omega))
    simp only[tdC,zgz,zgs,Nat.add_zero]at M0 N0 M1 N1;clear hc1 hc2 hr1 hr2
    by_cases hxy1:x1=y1
    ·subst hxy1
     by_cases hxy2:x2=y2
     ·subst hxy2
      go_wp2_with fail
      refine wp_region_keeps _ (by kernel_rfl) rfl (by kernel_rfl) ?_
      iterate 3
       refine ls ?_;simp only[addEnt]
      apply loose_is
      ·intro W vals hW hkn
       simp only[knows]at hkn
       try simp only[and_true]at hkn
       clear hkn;have m0:=M0 W hW;have m1:=M1 W hW;refine⟨?_⟩;simp only[fill];go_simp
       first | exact⟨Keeps.refl _ _,rfl⟩ | exact⟨Keeps.alloc _ _,rfl⟩
      iterate 3
       simp only[addEnt];refine ls ?_
      simp only[addEnt];apply loose_is
      ·intro W vals hW hkn
       simp only[knows]at hkn
       try simp only[and_true]at hkn
       clear hkn;have m0:=N0 W hW;have m1:=N1 W hW;refine⟨?_⟩;simp only[fill];go_simp
       first | exact⟨Keeps.refl _ _,rfl⟩ | exact⟨Keeps.alloc _ _,rfl⟩
      simp only[addEnt];refine ls ?_;simp only[addEnt];refine loose_nil (fun W vals hW hkn=> ?_);simp only[knowsAll]at hkn
      try simp only[and_true]at hkn
      simp only[fill,Act.put,zsa,zsc,zsz];clear hkn M0 N0 M1 N1;have HK:=zh (HR.out.2.then_ hW)
      go_wp2_with fail
      exact⟨⟨j+1,by omega,by go_num,zh ⟨HS.out (by first | rfl | trivial),HK.out⟩⟩,by simp[intOf];omega⟩
     ·skip
      have HD:=zh (show decide (l=m)=false from decide_eq_false (HNE.out (fun e=>hxy2 (by injection e))))
      go_wp2_with fail
      refine wp_region_keeps _ (by kernel_rfl) rfl (by kernel_rfl) ?_
      iterate 3
       refine ls ?_;simp only[addEnt]
      apply loose_is
      ·intro W vals hW hkn
       simp only[knows]at hkn
       try simp only[and_true]at hkn
       clear hkn;have m0:=M0 W hW;have m1:=M1 W hW;refine⟨?_⟩;simp only[fill];go_simp
       first | exact⟨Keeps.refl _ _,rfl⟩ | exact⟨Keeps.alloc _ _,rfl⟩
      iterate 3
       simp only[addEnt];refine ls ?_
      simp only[addEnt];apply loose_is
      ·intro W vals hW hkn
       simp only[knows]at hkn
       try simp only[and_true]at hkn
       clear hkn;have m0:=N0 W hW;have m1:=N1 W hW;refine⟨?_⟩;simp only[fill];go_simp
       first | exact⟨Keeps.refl _ _,rfl⟩ | exact⟨Keeps.alloc _ _,rfl⟩
      simp only[addEnt];refine ls ?_;simp only[addEnt];refine loose_nil (fun W vals hW hkn=> ?_);simp only[knowsAll]at hkn
      try simp only[and_true]at hkn
      simp only[fill,Act.put,zsa,zsc,zsz];clear hkn M0 N0 M1 N1;have HK:=zh (HR.out.2.then_ hW)
      go_wp2_with fail
      go_ret;exact⟨by rw[HD.out];rfl,HK.out⟩
    ·skip
     have HD:=zh (show decide (l=m)=false from decide_eq_false (HNE.out (fun e=>hxy1 (by injection e))))
     go_wp2_with fail
     refine wp_region_keeps _ (by kernel_rfl) rfl (by kernel_rfl) ?_
     iterate 3
      refine ls ?_;simp only[addEnt]
     apply loose_is
     ·intro W vals hW hkn
      simp only[knows]at hkn
      try simp only[and_true]at hkn
      clear hkn;have m0:=M0 W hW;have m1:=M1 W hW;refine⟨?_⟩;simp only[fill];go_simp
      first | exact⟨Keeps.refl _ _,rfl⟩ | exact⟨Keeps.alloc _ _,rfl⟩
     iterate 3
      simp only[addEnt];refine ls ?_
     simp only[addEnt];apply loose_is
     ·intro W vals hW hkn
      simp only[knows]at hkn
      try simp only[and_true]at hkn
      clear hkn;have m0:=N0 W hW;have m1:=N1 W hW;refine⟨?_⟩;simp only[fill];go_simp
      first | exact⟨Keeps.refl _ _,rfl⟩ | exact⟨Keeps.alloc _ _,rfl⟩
     simp only[addEnt];refine ls ?_;simp only[addEnt];refine loose_nil (fun W vals hW hkn=> ?_);simp only[knowsAll]at hkn
     try simp only[and_true]at hkn
     simp only[fill,Act.put,zsa,zsc,zsz];clear hkn M0 N0 M1 N1;have HK:=zh (HR.out.2.then_ hW)
     go_wp2_with fail
     go_ret;exact⟨by rw[HD.out];rfl,HK.out⟩
   ·obtain rfl:j=l.length:=by omega
    have HE:=zh (show l=m from by
     have:=HR.out.1;rw[List.take_length,HLM.out,List.take_length]at this;exact this)
    go_wp2_with fail
    go_ret;exact⟨by rw[decide_eq_true HE.out];rfl,HR.out.2⟩
 ·have hlb:((l.length:Int) !=(m.length:Int))=true:=by simpa using hlm
  have HE:=zh (show l≠m from fun e=>hlm (by rw[e]));clear hlm
  go_enter Tryz.func16,Tryz.ntmps16
  go_wp2_with fail
  go_ret;exact⟨by rw[decide_eq_false HE.out];rfl,Keeps.refl _ _⟩
set_option maxRecDepth 100000 in
set_option maxHeartbeats 2000000 in
theorem mtSameSub_any (w:World)(A B:Option Addr)(c d:Nat)(l m:List Sb)(h1:ListAt w 25 3 sbC A l)(h2:ListAt w 25 3 sbC B m)(hle:l.length≤1000000):
  Calls Tryz.prog 22 #[.slice A l.length c,.slice B m.length d] w (TruePost w (decide (l=m))):=by
 have HH:=zh (And.intro h1 h2);clear h1 h2
 by_cases hlm:(l.length:Int)=(m.length:Int)
 ·have hlb:((l.length:Int) !=(m.length:Int))=false:=by simpa using hlm
  have HLM:=zh (show l.length=m.length by omega);clear hlm
  go_enter Tryz.func22,Tryz.ntmps22
  go_wp2_with fail
  go_loopw [5] (fun i wr=>∃j:Nat,j≤l.length∧i= .int .i64 j∧Hid (l.take j=m.take j∧Keeps w wr [])) (fun i _=>l.length - (intOf i).toNat)
  case atStart=>exact⟨0,by omega,rfl,zh ⟨rfl,Keeps.refl _ _⟩⟩
  case round=>
   obtain⟨j,hj,rfl,HR⟩:=hrel
   by_cases hjl:j < l.length
   ·have hjm:j < m.length:=by have:=HLM.out;omega
    have hjm2:(j:Int) < (m.length:Int):=by omega
    obtain⟨b1,o1,cs1,rfl,hr1,hc1⟩:=HH.out.1 (by omega);obtain⟨b2,o2,cs2,rfl,hr2,hc2⟩:=HH.out.2 (by omega);have HS:=zh (fun h=>take_same hjl hjm HR.out.1 h);have HNE:=zh (show l[j]≠m[j]→l≠m from fun h e=>h (by subst e;rfl));have hc1:=hc1 j hjl;have hc2:=hc2 j hjm
    generalize l[j]=x at*
    generalize m[j]=y at*
    (obtain⟨x1,x2,x3⟩:=x;obtain⟨y1,y2,y3⟩:=y)
    have M0:=fun(W' :World) (hW:Keeps wr W' [])=>((hr1.keeps (HR.out.2.then_ hW)).cell (o1+j*3+0)).trans (hc1 0 (by omega))
    have N0:=fun(W' :World) (hW:Keeps wr W' [])=>((hr2.keeps (HR.out.2.then_ hW)).cell (o2+j*3+0)).trans (hc2 0 (by omega))
    have M1:=fun(W' :World) (hW:Keeps wr W' [])=>((hr1.keeps (HR.out.2.then_ hW)).cell (o1+j*3+1)).trans (hc1 1 (by omega))
    have N1:=fun(W' :World) (hW:Keeps wr W' [])=>((hr2.keeps (HR.out.2.then_ hW)).cell (o2+j*3+1)).trans (hc2 1 (by omega))
    have M2:=fun(W' :World) (hW:Keeps wr W' [])=>((hr1.keeps (HR.out.2.then_ hW)).cell (o1+j*3+2)).trans (hc1 2 (by omega))
    have N2:=fun(W' :World) (hW:Keeps wr W' [])=>((hr2.keeps (HR.out.2.then_ hW)).cell (o2+j*3+2)).trans (hc2 2 (by omega))
    simp only[sbC,zgz,zgs,Nat.add_zero]at M0 N0 M1 N1 M2 N2;clear hc1 hc2 hr1 hr2
    by_cases hxy1:x1=y1
    ·subst hxy1
     by_cases hxy2:x2=y2
     ·subst hxy2
      by_cases hxy3:x3=y3
      ·subst hxy3
       go_wp2_with fail
       refine wp_region_keeps _ (by kernel_rfl) rfl (by kernel_rfl) ?_
       iterate 3
        refine ls ?_;simp only[addEnt]
       apply loose_is
       ·intro W vals hW hkn
        simp only[knows]at hkn
        try simp only[and_true]at hkn
        clear hkn;have m0:=M0 W hW;have m1:=M1 W hW;have m2:=M2 W hW;refine⟨?_⟩;simp only[fill];go_simp
        first | exact⟨Keeps.refl _ _,rfl⟩ | exact⟨Keeps.alloc _ _,rfl⟩
       iterate 3
        simp only[addEnt];refine ls ?_
       simp only[addEnt];apply loose_is
       ·intro W vals hW hkn
        simp only[knows]at hkn
        try simp only[and_true]at hkn
        clear hkn;have m0:=N0 W hW;have m1:=N1 W hW;have m2:=N2 W hW;refine⟨?_⟩;simp only[fill];go_simp
        first | exact⟨Keeps.refl _ _,rfl⟩ | exact⟨Keeps.alloc _ _,rfl⟩
       simp only[addEnt];refine ls ?_;simp only[addEnt];refine loose_nil (fun W vals hW hkn=> ?_);simp only[knowsAll]at hkn
       try simp only[and_true]at hkn
       simp only[fill,Act.put,zsa,zsc,zsz];clear hkn M0 N0 M1 N1 M2 N2;have HK:=zh (HR.out.2.then_ hW)
       go_wp2_with fail
       exact⟨⟨j+1,by omega,by go_num,zh ⟨HS.out (by first | rfl | trivial),HK.out⟩⟩,by simp[intOf];omega⟩
      ·skip
       have HD:=zh (show decide (l=m)=false from decide_eq_false (HNE.out (fun e=>hxy3 (by injection e))))
       go_wp2_with fail
       refine wp_region_keeps _ (by kernel_rfl) rfl (by kernel_rfl) ?_
       iterate 3
        refine ls ?_;simp only[addEnt]
       apply loose_is
       ·intro W vals hW hkn
        simp only[knows]at hkn
        try simp only[and_true]at hkn
        clear hkn;have m0:=M0 W hW;have m1:=M1 W hW;have m2:=M2 W hW;refine⟨?_⟩;simp only[fill];go_simp
        first | exact⟨Keeps.refl _ _,rfl⟩ | exact⟨Keeps.alloc _ _,rfl⟩
       iterate 3
        simp only[addEnt];refine ls ?_
       simp only[addEnt];apply loose_is
       ·intro W vals hW hkn
        simp only[knows]at hkn
        try simp only[and_true]at hkn
        clear hkn;have m0:=N0 W hW;have m1:=N1 W hW;have m2:=N2 W hW;refine⟨?_⟩;simp only[fill];go_simp
        first | exact⟨Keeps.refl _ _,rfl⟩ | exact⟨Keeps.alloc _ _,rfl⟩
       simp only[addEnt];refine ls ?_;simp only[addEnt];refine loose_nil (fun W vals hW hkn=> ?_);simp only[knowsAll]at hkn
       try simp only[and_true]at hkn
       simp only[fill,Act.put,zsa,zsc,zsz];clear hkn M0 N0 M1 N1 M2 N2;have HK:=zh (HR.out.2.then_ hW)
       go_wp2_with fail
       go_ret;exact⟨by rw[HD.out];rfl,HK.out⟩
     ·skip
      have HD:=zh (show decide (l=m)=false from decide_eq_false (HNE.out (fun e=>hxy2 (by injection e))))
      go_wp2_with fail
      refine wp_region_keeps _ (by kernel_rfl) rfl (by kernel_rfl) ?_
      iterate 3
       refine ls ?_;simp only[addEnt]
      apply loose_is
      ·intro W vals hW hkn
       simp only[knows]at hkn
       try simp only[and_true]at hkn
       clear hkn;have m0:=M0 W hW;have m1:=M1 W hW;have m2:=M2 W hW;refine⟨?_⟩;simp only[fill];go_simp
       first | exact⟨Keeps.refl _ _,rfl⟩ | exact⟨Keeps.alloc _ _,rfl⟩
      iterate 3
       simp only[addEnt];refine ls ?_
      simp only[addEnt];apply loose_is
      ·intro W vals hW hkn
       simp only[knows]at hkn
       try simp only[and_true]at hkn
       clear hkn;have m0:=N0 W hW;have m1:=N1 W hW;have m2:=N2 W hW;refine⟨?_⟩;simp only[fill];go_simp
       first | exact⟨Keeps.refl _ _,rfl⟩ | exact⟨Keeps.alloc _ _,rfl⟩
      simp only[addEnt];refine ls ?_;simp only[addEnt];refine loose_nil (fun W vals hW hkn=> ?_);simp only[knowsAll]at hkn
      try simp only[and_true]at hkn
      simp only[fill,Act.put,zsa,zsc,zsz];clear hkn M0 N0 M1 N1 M2 N2;have HK:=zh (HR.out.2.then_ hW)
      go_wp2_with fail
      go_ret;exact⟨by rw[HD.out];rfl,HK.out⟩
    ·skip
     have HD:=zh (show decide (l=m)=false from decide_eq_false (HNE.out (fun e=>hxy1 (by injection e))))
     go_wp2_with fail
     refine wp_region_keeps _ (by kernel_rfl) rfl (by kernel_rfl) ?_
     iterate 3
      refine ls ?_;simp only[addEnt]
     apply loose_is
     ·intro W vals hW hkn
      simp only[knows]at hkn
      try simp only[and_true]at hkn
      clear hkn;have m0:=M0 W hW;have m1:=M1 W hW;have m2:=M2 W hW;refine⟨?_⟩;simp only[fill];go_simp
      first | exact⟨Keeps.refl _ _,rfl⟩ | exact⟨Keeps.alloc _ _,rfl⟩
     iterate 3
      simp only[addEnt];refine ls ?_
     simp only[addEnt];apply loose_is
     ·intro W vals hW hkn
      simp only[knows]at hkn
      try simp only[and_true]at hkn
      clear hkn;have m0:=N0 W hW;have m1:=N1 W hW;have m2:=N2 W hW;refine⟨?_⟩;simp only[fill];go_simp
      first | exact⟨Keeps.refl _ _,rfl⟩ | exact⟨Keeps.alloc _ _,rfl⟩
     simp only[addEnt];refine ls ?_;simp only[addEnt];refine loose_nil (fun W vals hW hkn=> ?_);simp only[knowsAll]at hkn
     try simp only[and_true]at hkn
     simp only[fill,Act.put,zsa,zsc,zsz];clear hkn M0 N0 M1 N1 M2 N2;have HK:=zh (HR.out.2.then_ hW)
     go_wp2_with fail
     go_ret;exact⟨by rw[HD.out];rfl,HK.out⟩
   ·obtain rfl:j=l.length:=by omega
    have HE:=zh (show l=m from by
     have:=HR.out.1;rw[List.take_length,HLM.out,List.take_length]at this;exact this)
    go_wp2_with fail
    go_ret;exact⟨by rw[decide_eq_true HE.out];rfl,HR.out.2⟩
 ·have hlb:((l.length:Int) !=(m.length:Int))=true:=by simpa using hlm
  have HE:=zh (show l≠m from fun e=>hlm (by rw[e]));clear hlm
  go_enter Tryz.func22,Tryz.ntmps22
  go_wp2_with fail
  go_ret;exact⟨by rw[decide_eq_false HE.out];rfl,Keeps.refl _ _⟩
set_option maxRecDepth 100000 in
set_option maxHeartbeats 2000000 in
theorem mtEqSub_any (w:World)(A B:Option Addr)(c d:Nat)(l m:List Sb)(h1:ListAt w 25 3 sbC A l)(h2:ListAt w 25 3 sbC B m)(hle:l.length≤1000000):
  Calls Tryz.prog 51 #[.slice A l.length c,.slice B m.length d] w (TruePost w (decide (l=m))):=by
 have HH:=zh (And.intro h1 h2);clear h1 h2
 by_cases hlm:(l.length:Int)=(m.length:Int)
 ·have hlb:((l.length:Int) !=(m.length:Int))=false:=by simpa using hlm
  have HLM:=zh (show l.length=m.length by omega);clear hlm
  go_enter Tryz.func51,Tryz.ntmps51
  go_wp2_with fail
  go_loopw [13] (fun i wr=>∃j:Nat,j≤l.length∧i= .int .i64 j∧Hid (l.take j=m.take j∧Keeps w wr [])) (fun i _=>l.length - (intOf i).toNat)
  case atStart=>exact⟨0,by omega,rfl,zh ⟨rfl,Keeps.refl _ _⟩⟩
  case round=>
   obtain⟨j,hj,rfl,HR⟩:=hrel
   by_cases hjl:j < l.length
   ·have hjm:j < m.length:=by have:=HLM.out;omega
    have hjm2:(j:Int) < (m.length:Int):=by omega
    obtain⟨b1,o1,cs1,rfl,hr1,hc1⟩:=HH.out.1 (by omega);obtain⟨b2,o2,cs2,rfl,hr2,hc2⟩:=HH.out.2 (by omega);have HS:=zh (fun h=>take_same hjl hjm HR.out.1 h);have HNE:=zh (show l[j]≠m[j]→l≠m from fun h e=>h (by subst e;rfl));have hc1:=hc1 j hjl;have hc2:=hc2 j hjm
    generalize l[j]=x at*
    generalize m[j]=y at*
    (obtain⟨x1,x2,x3⟩:=x;obtain⟨y1,y2,y3⟩:=y)
    have M0:=fun(W' :World) (hW:Keeps wr W' [])=>((hr1.keeps (HR.out.2.then_ hW)).cell (o1+j*3+0)).trans (hc1 0 (by omega))
    have N0:=fun(W' :World) (hW:Keeps wr W' [])=>((hr2.keeps (HR.out.2.then_ hW)).cell (o2+j*3+0)).trans (hc2 0 (by omega))
    have M1:=fun(W' :World) (hW:Keeps wr W' [])=>((hr1.keeps (HR.out.2.then_ hW)).cell (o1+j*3+1)).trans (hc1 1 (by omega))
    have N1:=fun(W' :World) (hW:Keeps wr W' [])=>((hr2.keeps (HR.out.2.then_ hW)).cell (o2+j*3+1)).trans (hc2 1 (by omega))
    have M2:=fun(W' :World) (hW:Keeps wr W' [])=>((hr1.keeps (HR.out.2.then_ hW)).cell (o1+j*3+2)).trans (hc1 2 (by omega))
    have N2:=fun(W' :World) (hW:Keeps wr W' [])=>((hr2.keeps (HR.out.2.then_ hW)).cell (o2+j*3+2)).trans (hc2 2 (by omega))
    simp only[sbC,zgz,zgs,Nat.add_zero]at M0 N0 M1 N1 M2 N2;clear hc1 hc2 hr1 hr2
    by_cases hxy1:x1=y1
    ·subst hxy1
     by_cases hxy2:x2=y2
     ·subst hxy2
      by_cases hxy3:x3=y3
      ·subst hxy3
       go_wp2_with fail
       refine wp_region_keeps _ (by kernel_rfl) rfl (by kernel_rfl) ?_
       iterate 3
        refine ls ?_;simp only[addEnt]
       apply loose_is
       ·intro W vals hW hkn
        simp only[knows]at hkn
        try simp only[and_true]at hkn
        clear hkn;have m0:=M0 W hW;have m1:=M1 W hW;have m2:=M2 W hW;refine⟨?_⟩;simp only[fill];go_simp
        first | exact⟨Keeps.refl _ _,rfl⟩ | exact⟨Keeps.alloc _ _,rfl⟩
       iterate 3
        simp only[addEnt];refine ls ?_
       simp only[addEnt];apply loose_is
       ·intro W vals hW hkn
        simp only[knows]at hkn
        try simp only[and_true]at hkn
        clear hkn;have m0:=N0 W hW;have m1:=N1 W hW;have m2:=N2 W hW;refine⟨?_⟩;simp only[fill];go_simp
        first | exact⟨Keeps.refl _ _,rfl⟩ | exact⟨Keeps.alloc _ _,rfl⟩
       simp only[addEnt];refine ls ?_;simp only[addEnt];refine loose_nil (fun W vals hW hkn=> ?_);simp only[knowsAll]at hkn
       try simp only[and_true]at hkn
       simp only[fill,Act.put,zsa,zsc,zsz];clear hkn M0 N0 M1 N1 M2 N2;have HK:=zh (HR.out.2.then_ hW)
       go_wp2_with fail
       exact⟨⟨j+1,by omega,by go_num,zh ⟨HS.out (by first | rfl | trivial),HK.out⟩⟩,by simp[intOf];omega⟩
      ·skip
       have HD:=zh (show decide (l=m)=false from decide_eq_false (HNE.out (fun e=>hxy3 (by injection e))))
       go_wp2_with fail
       refine wp_region_keeps _ (by kernel_rfl) rfl (by kernel_rfl) ?_
       iterate 3
        refine ls ?_;simp only[addEnt]
       apply loose_is
       ·intro W vals hW hkn
        simp only[knows]at hkn
        try simp only[and_true]at hkn
        clear hkn;have m0:=M0 W hW;have m1:=M1 W hW;have m2:=M2 W hW;refine⟨?_⟩;simp only[fill];go_simp
        first | exact⟨Keeps.refl _ _,rfl⟩ | exact⟨Keeps.alloc _ _,rfl⟩
       iterate 3
        simp only[addEnt];refine ls ?_
       simp only[addEnt];apply loose_is
       ·intro W vals hW hkn
        simp only[knows]at hkn
        try simp only[and_true]at hkn
        clear hkn;have m0:=N0 W hW;have m1:=N1 W hW;have m2:=N2 W hW;refine⟨?_⟩;simp only[fill];go_simp
        first | exact⟨Keeps.refl _ _,rfl⟩ | exact⟨Keeps.alloc _ _,rfl⟩
       simp only[addEnt];refine ls ?_;simp only[addEnt];refine loose_nil (fun W vals hW hkn=> ?_);simp only[knowsAll]at hkn
       try simp only[and_true]at hkn
       simp only[fill,Act.put,zsa,zsc,zsz];clear hkn M0 N0 M1 N1 M2 N2;have HK:=zh (HR.out.2.then_ hW)
       go_wp2_with fail
       go_ret;exact⟨by rw[HD.out];rfl,HK.out⟩
     ·skip
      have HD:=zh (show decide (l=m)=false from decide_eq_false (HNE.out (fun e=>hxy2 (by injection e))))
      go_wp2_with fail
      refine wp_region_keeps _ (by kernel_rfl) rfl (by kernel_rfl) ?_
      iterate 3
       refine ls ?_;simp only[addEnt]
      apply loose_is
      ·intro W vals hW hkn
       simp only[knows]at hkn
       try simp only[and_true]at hkn
       clear hkn;have m0:=M0 W hW;have m1:=M1 W hW;have m2:=M2 W hW;refine⟨?_⟩;simp only[fill];go_simp
       first | exact⟨Keeps.refl _ _,rfl⟩ | exact⟨Keeps.alloc _ _,rfl⟩
      iterate 3
       simp only[addEnt];refine ls ?_
      simp only[addEnt];apply loose_is
      ·intro W vals hW hkn
       simp only[knows]at hkn
       try simp only[and_true]at hkn
       clear hkn;have m0:=N0 W hW;have m1:=N1 W hW;have m2:=N2 W hW;refine⟨?_⟩;simp only[fill];go_simp
       first | exact⟨Keeps.refl _ _,rfl⟩ | exact⟨Keeps.alloc _ _,rfl⟩
      simp only[addEnt];refine ls ?_;simp only[addEnt];refine loose_nil (fun W vals hW hkn=> ?_);simp only[knowsAll]at hkn
      try simp only[and_true]at hkn
      simp only[fill,Act.put,zsa,zsc,zsz];clear hkn M0 N0 M1 N1 M2 N2;have HK:=zh (HR.out.2.then_ hW)
      go_wp2_with fail
      go_ret;exact⟨by rw[HD.out];rfl,HK.out⟩
    ·skip
     have HD:=zh (show decide (l=m)=false from decide_eq_false (HNE.out (fun e=>hxy1 (by injection e))))
     go_wp2_with fail
     refine wp_region_keeps _ (by kernel_rfl) rfl (by kernel_rfl) ?_
     iterate 3
      refine ls ?_;simp only[addEnt]
     apply loose_is
     ·intro W vals hW hkn
      simp only[knows]at hkn
      try simp only[and_true]at hkn
      clear hkn;have m0:=M0 W hW;have m1:=M1 W hW;have m2:=M2 W hW;refine⟨?_⟩;simp only[fill];go_simp
      first | exact⟨Keeps.refl _ _,rfl⟩ | exact⟨Keeps.alloc _ _,rfl⟩
     iterate 3
      simp only[addEnt];refine ls ?_
     simp only[addEnt];apply loose_is
     ·intro W vals hW hkn
      simp only[knows]at hkn
      try simp only[and_true]at hkn
      clear hkn;have m0:=N0 W hW;have m1:=N1 W hW;have m2:=N2 W hW;refine⟨?_⟩;simp only[fill];go_simp
      first | exact⟨Keeps.refl _ _,rfl⟩ | exact⟨Keeps.alloc _ _,rfl⟩
     simp only[addEnt];refine ls ?_;simp only[addEnt];refine loose_nil (fun W vals hW hkn=> ?_);simp only[knowsAll]at hkn
     try simp only[and_true]at hkn
     simp only[fill,Act.put,zsa,zsc,zsz];clear hkn M0 N0 M1 N1 M2 N2;have HK:=zh (HR.out.2.then_ hW)
     go_wp2_with fail
     go_ret;exact⟨by rw[HD.out];rfl,HK.out⟩
   ·obtain rfl:j=l.length:=by omega
    have HE:=zh (show l=m from by
     have:=HR.out.1;rw[List.take_length,HLM.out,List.take_length]at this;exact this)
    go_wp2_with fail
    go_ret;exact⟨by rw[decide_eq_true HE.out];rfl,HR.out.2⟩
 ·have hlb:((l.length:Int) !=(m.length:Int))=true:=by simpa using hlm
  have HE:=zh (show l≠m from fun e=>hlm (by rw[e]));clear hlm
  go_enter Tryz.func51,Tryz.ntmps51
  go_wp2_with fail
  go_ret;exact⟨by rw[decide_eq_false HE.out];rfl,Keeps.refl _ _⟩
end Go.Proofs.YtoadlafdeoklbaaGreatDoor

namespace Go.Proofs.YtoadlafdeoklbaaGreatDoor
open Go

theorem said_asc {s:List UInt8}(h:∀a∈s,0 < a.toNat∧a.toNat < 128)(h1:1≤s.length)(h2:s.length≤200):tSaid s=true:=by
 unfold tSaid;rw[uGood_all_ascii h,decide_eq_true h1,decide_eq_true h2];rfl
theorem filter_asc {s:List UInt8}(h:∀a∈s,0 < a.toNat∧a.toNat < 128)(h1:1≤s.length)(h2:s.length≤200)(h3:tOks (tLev s)=true):tFilter s=true:=by
 unfold tFilter;rw[said_asc h h1 h2,h3];rfl
theorem name_asc {s:List UInt8}(h:∀a∈s,0 < a.toNat∧a.toNat < 128)(h1:1≤s.length)(h2:s.length≤200)(h3:tSign s=false):tName s=true:=by
 unfold tName;rw[said_asc h h1 h2,h3];rfl
def k1:Sb:=⟨[97,47,43], [120],1⟩
def k2:Sb:=⟨[97,47,35], [120],2⟩
def k3:Sb:=⟨[35], [121],0⟩
theorem k14f1:tFilter [97,47,43]=true:=filter_asc (by decide) (by decide) (by decide) (by decide)
theorem k14f2:tFilter [97,47,35]=true:=filter_asc (by decide) (by decide) (by decide) (by decide)
theorem k14f3:tFilter [35]=true:=filter_asc (by decide) (by decide) (by decide) (by decide)
theorem k14n:tName [97,47,98]=true:=name_asc (by decide) (by decide) (by decide) (by decide)
theorem setA_ok {L:List Sb}{s:Sb}(h1:tFilter s.f=true)(h2:mtSubOk s=true)(h3:L.length < 4096):mtSetA L s=(mtSet L s, !mtHas L s.f s.c,0):=by
 unfold mtSetA;rw[if_neg (by rw[h1];simp),if_neg (by rw[h2];simp),if_neg (by omega)]
theorem dropA_ok {L:List Sb}{f c:List UInt8}(h1:tFilter f=true)(h2:mtCl c=true):mtDropA L f c=(mtDrop L f c,mtHas L f c,0):=by
 unfold mtDropA;rw[if_neg (by rw[h1];simp),if_neg (by rw[h2];simp)]
theorem k14s1:mtSetA [] k1=([k1],true,0):=(setA_ok k14f1 (by decide) (by decide)).trans (by decide)
theorem k14s2:mtSetA [k1] k2=([k2,k1],true,0):=(setA_ok k14f2 (by decide) (by decide)).trans (by decide)
theorem k14s3:mtSetA [k2,k1] k3=([k3,k2,k1],true,0):=(setA_ok k14f3 (by decide) (by decide)).trans (by decide)
theorem k14d:mtDropA [k3,k2,k1] [97,47,35] [120]=([k3,k1],true,0):=(dropA_ok k14f2 (by decide)).trans (by decide)
theorem k14t:mtTold [k3,k2,k1] [97,47,98]= [([120],2),([121],0)]:=by decide
theorem k14m:mtNodes [k3,k2,k1]=4∧mtNodes [k3,k1]=3:=by decide
end Go.Proofs.YtoadlafdeoklbaaGreatDoor

namespace Go.Proofs.YtoadlafdeoklbaaGreatDoor
open Go.RowKit Go.Maps Go.Shelf

/-- A book that was made since a world. -/
def BkIn (w W:World)(d:Nat)(L:List Sb):Prop:=∃X,Bk w.heap.size W d L X∧Keeps w W []
theorem BkIn.go {w W W' :World}{d:Nat}{L L' :List Sb}{X X' :List Nat}(hk:Keeps w W [])(h:Bk w.heap.size W d L X)(hg:BkGo w.heap.size W W' d L' X X'):BkIn w W' d L' :=
 ⟨X',hg.bk,hk.trans hg.k fun y hy hlt=>by have:=(h.base y hy).1;omega⟩
theorem BkIn.keeps {w W W' :World}{d:Nat}{L:List Sb}(h:BkIn w W d L)(hk:Keeps W W' []):BkIn w W' d L:=by
 obtain⟨X,h1,h2⟩:=h;exact⟨X,h1.keeps hk,h2.then_ hk⟩
theorem BkIn.k {w W:World}{d:Nat}{L:List Sb}(h:BkIn w W d L):Keeps w W []:=by
 obtain⟨X,h1,h2⟩:=h;exact h2
theorem BkIn.ok {w W:World}{d:Nat}{L:List Sb}(h:BkIn w W d L):MtOk L:=by
 obtain⟨X,h1,h2⟩:=h;exact h1.ok
/-- Rows of other kinds stay. -/
def Else (W W' :World):Prop:=∀g t cs,Row W g t cs→t≠64→t≠75→Row W' g t cs
theorem Else.of {B:Nat}{W W' :World}{d:Nat}{L L' :List Sb}{X X' :List Nat}(h:Bk B W d L X)(hg:BkGo B W W' d L' X X'):Else W W' :=fun _ _ _ hr h1 h2=>hr.keep hg.k (h.far hr h1 h2)
theorem Else.list {α:Type}{f:α→List Value}{W W' :World}{e:TypeId}{k:Nat}{A:Option Addr}{l:List α}(h:Else W W')(hl:ListAt W e k f A l)(h1:e≠64)(h2:e≠75):ListAt W' e k f A l:=fun hp=>by
 obtain⟨b,o,cs,ea,hr,hc⟩:=hl hp;exact⟨b,o,cs,ea,h _ _ _ hr h1 h2,hc⟩
theorem mtNew_in (w W:World)(hk:Keeps w W []):Calls Tryz.prog 11 #[] W fun e w' =>∃d,e= .returned (ptr0 d)∧BkIn w w' d []∧Keeps W w' []:=
 (mtNew_any W w.heap.size hk.size).mono fun _ _ ⟨d,X,h1,h2,h3,_⟩=>⟨d,h1,⟨X,h2,hk.then_ h3⟩,h3⟩
section
variable {w W:World} {d:Nat} {L:List Sb}
theorem BkIn.set (h:BkIn w W d L)(hm:MaxL w)(s:Sb)(hs:s.f.length≤50000)(hc:s.c.length≤50000):Calls Tryz.prog 12 #[ptr0 d,sbV s] W fun e w' =>e= .returned (.tuple #[.bool (mtSetA L s).2.1,.int .i64 (mtSetA L s).2.2])∧BkIn w w' d (mtSetA L s).1∧Else W w' :=by
 obtain⟨X,h1,h2⟩:=h;exact(mtSet_any w.heap.size W d L X h1 (hm.keeps h2) s hs (by omega)).mono fun e w' ⟨g1,X',g2⟩=>⟨g1,BkIn.go h2 h1 g2,Else.of h1 g2⟩
theorem BkIn.drop (h:BkIn w W d L)(hm:MaxL w)(f c:List UInt8)(hs:f.length≤50000)(hc:c.length≤50000):Calls Tryz.prog 19 #[ptr0 d,.string ⟨f.toArray⟩,.string ⟨c.toArray⟩] W fun e w' =>e= .returned (.tuple #[.bool (mtDropA L f c).2.1,.int .i64 (mtDropA L f c).2.2])∧BkIn w w' d (mtDropA L f c).1∧Else W w' :=by
 obtain⟨X,h1,h2⟩:=h;exact(mtDropE_any w.heap.size W d L X h1 (hm.keeps h2) f c hs (by omega)).mono fun e w' ⟨g1,X',g2⟩=>⟨g1,BkIn.go h2 h1 g2,Else.of h1 g2⟩
theorem BkIn.meets (h:BkIn w W d L)(hm:MaxL w)(n:List UInt8)(hn:n.length≤50000):Calls Tryz.prog 13 #[ptr0 d,.string ⟨n.toArray⟩] W (MeetsPost W L n):=by
 obtain⟨X,h1,h2⟩:=h;exact mtMeets_any w.heap.size W d L X h1 (hm.keeps h2) n hn
theorem BkIn.nodes (h:BkIn w W d L):Calls Tryz.prog 18 #[ptr0 d] W fun e w' =>e= .returned (.int .i64 (mtNodes L:Nat))∧Keeps W w' []:=by
 obtain⟨X,h1,h2⟩:=h;exact mtNodes_any _ W d L X h1
theorem BkIn.len (h:BkIn w W d L):Calls Tryz.prog 29 #[ptr0 d] W fun e w' =>e= .returned (.int .i64 (L.length:Nat))∧w' =W:=by
 obtain⟨X,h1,h2⟩:=h;exact mtLen_any _ W d L X h1
end
end Go.Proofs.YtoadlafdeoklbaaGreatDoor
