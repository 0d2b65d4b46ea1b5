/- Package match: a book that is not there. -/
import Derived.Test.YtoadlafdeoklbaaGreatDoorPa46
import Derived.Test.YtoadlafdeoklbaaGreatDoorPa35

namespace Go.Proofs.YtoadlafdeoklbaaGreatDoor
open Go.RowKit Go.Maps Go.Shelf

/-- There is no book. -/
def NoBk (w:World)(nv:Value):Prop:=∀W,Keeps w W []→Calls Tryz.prog 33 #[nv] W fun e w' =>e= .returned (.bool true)∧w' =W
theorem NoBk.keeps {w w' :World}{nv:Value}(h:NoBk w nv)(hk:Keeps w w' []):NoBk w' nv:=fun W hW=>h W (hk.then_ hW)
theorem noBk_nil (w:World):NoBk w (.pointer none):=fun W _=>mtNone_nil W
theorem noBk_row {w:World}{d:Nat}{v:Value}(hr:Row w d 64 #[.pointer none,v]):NoBk w (ptr0 d):=fun W hk=>mtNone_at W d none v (hr.keeps hk)
section
variable {w:World} {nv:Value}
set_option maxRecDepth 100000 in
theorem set_none (h:NoBk w nv)(s:Sb):Calls Tryz.prog 12 #[nv,sbV s] w fun e w' =>e= .returned (.tuple #[.bool false,.int .i64 1])∧Keeps w w' []:=by
 have H:=zh h;clear h;obtain⟨F,hF⟩:∃S:ByteArray,(⟨s.f.toArray⟩:ByteArray)=S:=⟨_,rfl⟩;obtain⟨C,hC⟩:∃S:ByteArray,(⟨s.c.toArray⟩:ByteArray)=S:=⟨_,rfl⟩;unfold sbV;rw[hF,hC];clear hF hC
 go_enter Tryz.func12,Tryz.ntmps12
 go_wp2_with fail
 refine(H.out _ (Keeps.alloc _ _)).mono ?_;rintro e w2 ⟨rfl,rfl⟩
 go_wp2_with fail
 go_ret2
 exact⟨rfl,Keeps.alloc _ _⟩
set_option maxRecDepth 100000 in
theorem drop_none (h:NoBk w nv)(F C:ByteArray):Calls Tryz.prog 19 #[nv,.string F,.string C] w fun e w' =>e= .returned (.tuple #[.bool false,.int .i64 1])∧Keeps w w' []:=by
 have H:=zh h;clear h
 go_enter Tryz.func19,Tryz.ntmps19
 go_wp2_with fail
 refine(H.out _ (Keeps.refl _ _)).mono ?_;rintro e w2 ⟨rfl,rfl⟩
 go_wp2_with fail
 go_ret2
 exact⟨rfl,Keeps.refl _ _⟩
set_option maxRecDepth 100000 in
theorem leave_none (h:NoBk w nv)(C:ByteArray):Calls Tryz.prog 27 #[nv,.string C] w fun e w' =>e= .returned (.tuple #[.int .i64 0,.int .i64 1])∧Keeps w w' []:=by
 have H:=zh h;clear h
 go_enter Tryz.func27,Tryz.ntmps27
 go_wp2_with fail
 refine(H.out _ (Keeps.refl _ _)).mono ?_;rintro e w2 ⟨rfl,rfl⟩
 go_wp2_with fail
 go_ret2
 exact⟨rfl,Keeps.refl _ _⟩
set_option maxRecDepth 100000 in
theorem meets_none (h:NoBk w nv)(C:ByteArray):Calls Tryz.prog 13 #[nv,.string C] w fun e w' =>e= .returned (.tuple #[.slice none 0 0,.int .i64 1])∧Keeps w w' []:=by
 have H:=zh h;clear h
 go_enter Tryz.func13,Tryz.ntmps13
 go_wp2_with fail
 refine(H.out _ (Keeps.refl _ _)).mono ?_;rintro e w2 ⟨rfl,rfl⟩
 go_wp2_with fail
 go_ret2
 exact⟨rfl,Keeps.refl _ _⟩
set_option maxRecDepth 100000 in
theorem all_none (h:NoBk w nv):Calls Tryz.prog 52 #[nv] w fun e w' =>e= .returned (.slice none 0 0)∧Keeps w w' []:=by
 have H:=zh h;clear h
 go_enter Tryz.func52,Tryz.ntmps52
 go_wp2_with fail
 refine(H.out _ (Keeps.refl _ _)).mono ?_;rintro e w2 ⟨rfl,rfl⟩
 go_wp2_with fail
 go_ret;exact⟨rfl,Keeps.refl _ _⟩
set_option maxRecDepth 100000 in
theorem len_none (h:NoBk w nv):Calls Tryz.prog 29 #[nv] w fun e w' =>e= .returned (.int .i64 0)∧Keeps w w' []:=by
 have H:=zh h;clear h
 go_enter Tryz.func29,Tryz.ntmps29
 go_wp2_with fail
 refine(H.out _ (Keeps.refl _ _)).mono ?_;rintro e w2 ⟨rfl,rfl⟩
 go_wp2_with fail
 go_ret;exact⟨rfl,Keeps.refl _ _⟩
set_option maxRecDepth 100000 in
theorem nodes_none (h:NoBk w nv):Calls Tryz.prog 18 #[nv] w fun e w' =>e= .returned (.int .i64 0)∧Keeps w w' []:=by
 have H:=zh h;clear h
 go_enter Tryz.func18,Tryz.ntmps18
 go_wp2_with fail
 refine(H.out _ (Keeps.refl _ _)).mono ?_;rintro e w2 ⟨rfl,rfl⟩
 go_wp2_with fail
 go_ret;exact⟨rfl,Keeps.refl _ _⟩
set_option maxRecDepth 100000 in
theorem copy_none (h:NoBk w nv):Calls Tryz.prog 25 #[nv] w fun e w' =>e= .returned (.pointer none)∧Keeps w w' []:=by
 have H:=zh h;clear h
 go_enter Tryz.func25,Tryz.ntmps25
 go_wp2_with fail
 refine(H.out _ (Keeps.refl _ _)).mono ?_;rintro e w2 ⟨rfl,rfl⟩
 go_wp2_with fail
 go_ret;exact⟨rfl,Keeps.refl _ _⟩
set_option maxRecDepth 100000 in
theorem same_none {nv2:Value}(h:NoBk w nv)(h2:NoBk w nv2):Calls Tryz.prog 17 #[nv,nv2] w fun e w' =>e= .returned (.bool true)∧Keeps w w' []:=by
 have H:=zh h;have H2:=zh h2;clear h h2
 go_enter Tryz.func17,Tryz.ntmps17
 go_wp2_with fail
 refine(H.out _ (Keeps.refl _ _)).mono ?_;rintro e w2 ⟨rfl,rfl⟩
 go_wp2_with fail
 refine(H.out _ (Keeps.refl _ _)).mono ?_;rintro e w3 ⟨rfl,rfl⟩
 go_wp2_with fail
 refine(H2.out _ (Keeps.refl _ _)).mono ?_;rintro e w4 ⟨rfl,rfl⟩
 go_wp2_with fail
 go_ret;exact⟨rfl,Keeps.refl _ _⟩
set_option maxRecDepth 100000 in
theorem of_none (h:NoBk w nv)(C:ByteArray):Calls Tryz.prog 23 #[nv,.string C] w fun e w' =>e= .returned (.slice none 0 0)∧Keeps w w' []:=by
 have H:=zh h;clear h;have HD:=zh (show∀(W:World) (bx:Nat),Calls Tryz.prog 59 #[.slice none 0 0,ofFn bx] W fun e w' =>e= .returned (.slice none 0 0)∧Keeps W w' []from fun W bx=>by
  have HI:=zh (mtIdx_any W bx none 0 [] (fun _=>true) (ListAt.nil _ _ _ _ _) (by simp) (fun _ _ x hx=>by cases hx))
  go_enter Tryz.func59,Tryz.ntmps59
  go_wp2_with fail
  refine HI.out.mono ?_;rintro e w1 ⟨rfl,hk⟩;have HK:=zh hk;rw[show fIdx (fun _:Sb=>true) []= -1 from rfl];clear hk HI
  go_wp2_with fail
  go_ret;exact⟨rfl,HK.out⟩)
 go_enter Tryz.func23,Tryz.ntmps23
 go_wp2_with fail
 refine(all_none (H.out.keeps (Keeps.alloc _ _))).mono ?_;rintro e w2 ⟨rfl,hk⟩;have HK:=zh ((Keeps.alloc w _).then_ hk);clear hk
 go_wp2_with fail
 refine(HD.out _ _).mono ?_;rintro e w3 ⟨rfl,hk⟩;have HK3:=zh (HK.out.then_ hk);clear hk
 go_wp2_with fail
 go_ret;exact⟨rfl,HK3.out⟩
theorem list_none (h:NoBk w nv):Calls Tryz.prog 28 #[nv] w fun e w' =>∃v,e= .returned v∧OwnN w' w.heap.size 25 3 sbC v []∧Keeps w w' []:=
 callsIn_wide.1 (mtList_in 3 (by omega) w nv [] (by simp) fun W hk=>mtAllF_any W nv [] ((all_none (h.keeps hk)).mono fun e w' ⟨h1,h2⟩=>⟨_,h1,OwnN.nil _ _ _ _ _,h2⟩))
theorem BkIn.list {W:World}{d:Nat}{L:List Sb}(h:BkIn w W d L):Calls Tryz.prog 28 #[ptr0 d] W fun e w' =>∃v,e= .returned v∧OwnN w' W.heap.size 25 3 sbC v L∧Keeps W w' []:=
 callsIn_wide.1 (mtList_in 3 (by omega) W (ptr0 d) L (Nat.le_trans h.ok.le (by omega)) fun W' hk=>mtAllF_any W' _ L (h.keeps hk).all)
end
end Go.Proofs.YtoadlafdeoklbaaGreatDoor
