/- Package match: Same. -/
import Derived.Test.YtoadlafdeoklbaaGreatDoorPa38
import Derived.Test.YtoadlafdeoklbaaGreatDoorPa31

namespace Go.Proofs.YtoadlafdeoklbaaGreatDoor
open Go.RowKit Go.Maps Go.Shelf

variable {w W:World} {d d1 d2:Nat} {L L1 L2:List Sb}
theorem BkIn.all (h:BkIn w W d L):Calls Tryz.prog 52 #[ptr0 d] W fun e w' =>∃v,e= .returned v∧OwnN w' W.heap.size 25 3 sbC v L∧Keeps W w' []:=by
 obtain⟨X,h1,h2⟩:=h;obtain⟨N,hb,_,_⟩:=h1.norm;exact mtAll_any W _ d L _ N hb
theorem BkIn.none_ (h:BkIn w W d L):Calls Tryz.prog 33 #[ptr0 d] W fun e w' =>e= .returned (.bool false)∧w' =W:=by
 obtain⟨X,h1,h2⟩:=h;obtain⟨r,hr⟩:=h1.row;exact mtNone_at W d _ _ hr
set_option maxRecDepth 100000 in
theorem mtSame_any (h1:BkIn w W d1 L1)(h2:BkIn w W d2 L2):Calls Tryz.prog 17 #[ptr0 d1,ptr0 d2] W (TruePost W (decide (L1=L2))):=by
 have H1:=zh h1;have H2:=zh h2;have HLE:=zh h1.ok.le;clear h1 h2
 go_enter Tryz.func17,Tryz.ntmps17
 go_wp2_with fail
 refine H1.out.none_.mono ?_;rintro e w1 ⟨rfl,rfl⟩
 go_wp2_with fail
 refine H2.out.none_.mono ?_;rintro e w2 ⟨rfl,rfl⟩
 go_wp2_with fail
 refine H1.out.all.mono ?_;rintro e w3 ⟨v1,rfl,ho1,hk3⟩;obtain⟨A1,c1,rfl,hl1⟩:=own_at encSb ho1;have HL1:=zh hl1;have HB2:=zh (H2.out.keeps hk3);have HK3:=zh hk3;clear ho1 hl1 hk3
 go_wp2_with fail
 refine HB2.out.all.mono ?_;rintro e w4 ⟨v2,rfl,ho2,hk4⟩;obtain⟨A2,c2,rfl,hl2⟩:=own_at encSb ho2;have HL2:=zh hl2;have HL1' :=zh (HL1.out.keeps hk4);have HK4:=zh (HK3.out.then_ hk4);clear ho2 hl2 hk4
 go_wp2_with fail
 refine(mtEqSub_any w4 A1 A2 c1 c2 L1 L2 HL1'.out HL2.out (by have:=HLE.out;omega)).mono ?_;rintro e w5 ⟨rfl,hk5⟩;have HK5:=zh (HK4.out.then_ hk5);clear hk5
 go_wp2_with fail
 go_ret;exact⟨rfl,HK5.out⟩
end Go.Proofs.YtoadlafdeoklbaaGreatDoor
