/- Package packet: what a kind has of a packet, alone. -/
import Derived.Test.YtahbikfbjenfpaaGreatDoorPa17

namespace Go.Proofs.YtahbikfbjenfpaaGreatDoor
open Go.RowKit


set_option maxRecDepth 100000 in
set_option maxHeartbeats 2000000 in
theorem pkHasNone_any (p:Pk)(Aw Ac Af:Option Addr)(nw cw nc cc nf cf:Nat)(w:World):Calls Tryz.prog 49 #[pkV p (.slice Aw nw cw) (.slice Ac nc cc) (.slice Af nf cf)] w fun e w' =>e= .returned (.agg zP0)∧Keeps w w' []:=by
 obtain⟨sw,hsw⟩:∃x,(Value.slice Aw nw cw)=x:=⟨_,rfl⟩;obtain⟨sc,hsc⟩:∃x,(Value.slice Ac nc cc)=x:=⟨_,rfl⟩;obtain⟨sf,hsf⟩:∃x,(Value.slice Af nf cf)=x:=⟨_,rfl⟩;rw[hsw,hsc,hsf];obtain⟨k,dup,ret,q,t,b,id,c,cl,keep,hw,wt,wb,wq,wr,hu,hp,u,pw,pr,code,wants,codes,fs⟩:=p;obtain⟨W0,hW0⟩:∃W,(w).alloc (.cells (zP k dup ret q t b id c cl keep hw wt wb wq wr hu hp u pw pr code sw sc sf) 29)=W:=⟨_,rfl⟩;have k0:Keeps (w) W0 []:=by rw[←hW0];exact Keeps.alloc _ _
 have r0:Row W0 (w).heap.size 29 (zP k dup ret q t b id c cl keep hw wt wb wq wr hu hp u pw pr code sw sc sf):=by rw[←hW0];exact Row.new _ _ _
 rw[←hsw,←hsc,←hsf]at hW0 r0;rw[←hsw,←hsc,←hsf];clear hsw hsc hsf;obtain⟨W1,hW1⟩:∃W1,W0.alloc (.cells zP0 29)=W1:=⟨_,rfl⟩;have r1:=r0.keeps (show Keeps W0 W1 []by rw[←hW1];exact Keeps.alloc _ _);have x0:=r1.cell 0;have x1:=r1.cell 1;have x2:=r1.cell 2;have x3:=r1.cell 3;have x4:=r1.cell 4;have x5:=r1.cell 5;have x6:=r1.cell 6;have x7:=r1.cell 7;have x8:=r1.cell 8;have x9:=r1.cell 9;have x10:=r1.cell 10;have x11:=r1.cell 11;have x12:=r1.cell 12;have x13:=r1.cell 13;have x14:=r1.cell 14;have x15:=r1.cell 15;have x16:=r1.cell 16;have x17:=r1.cell 17;have x18:=r1.cell 18;have x19:=r1.cell 19;have x20:=r1.cell 20;have x21:=r1.cell 21;have x22:=r1.cell 22;have x23:=r1.cell 23;simp only[zga,zgz,zgs]at x0 x1 x2 x3 x4 x5 x6 x7 x8 x9 x10 x11 x12 x13 x14 x15 x16 x17 x18 x19 x20 x21 x22 x23;have HK:=zh k0;clear r1 k0 r0
 go_enter Tryz.func49,Tryz.ntmps49
 go_wp2_with (refine wpList_store_new rfl (.tmp 2) (.tmp 3) rfl zP0 zP0 W0 hW1.symm (by kernel_rfl) rfl (by simp[Value.oneCell']) rfl rfl ?_;intro w5 hw5)
 refine zh ?_;obtain⟨X,hX⟩:∃X:Array Value,zP0=X:=⟨_,rfl⟩;rw[hX]at hw5;have q9:Row w5 W0.heap.size 29 X:=by rw[←hw5];exact Row.new _ _ _
 have k9:Keeps W0 w5 []:=by rw[←hw5];exact Keeps.alloc _ _
 have H9:=zh (And.intro q9 (HK.out.then_ k9));clear x0 x1 x2 x3 x4 x5 x6 x7 x8 x9 x10 x11 x12 x13 x14 x15 x16 x17 x18 x19 x20 x21 x22 x23;clear k9 hW0 hW1 q9 hw5
 go_wp2_with fail
 obtain⟨d,hu,hd⟩:=undPack;refine bodyPost_ret (results_row (s:=2) (cs:=X.toList) rfl rfl (range_row H9.out.1) hu hd (by rw[←hX];kernel_rfl)) rfl ⟨?_,H9.out.2⟩;rw[←hX]
set_option maxRecDepth 100000 in
set_option maxHeartbeats 2000000 in
theorem pkHasAns_any (p:Pk)(Aw Ac Af:Option Addr)(nw cw nc cc nf cf:Nat)(w:World):Calls Tryz.prog 139 #[pkV p (.slice Aw nw cw) (.slice Ac nc cc) (.slice Af nf cf)] w fun e w' =>e= .returned (.agg zP0)∧Keeps w w' []:=by
 obtain⟨sw,hsw⟩:∃x,(Value.slice Aw nw cw)=x:=⟨_,rfl⟩;obtain⟨sc,hsc⟩:∃x,(Value.slice Ac nc cc)=x:=⟨_,rfl⟩;obtain⟨sf,hsf⟩:∃x,(Value.slice Af nf cf)=x:=⟨_,rfl⟩;rw[hsw,hsc,hsf];obtain⟨k,dup,ret,q,t,b,id,c,cl,keep,hw,wt,wb,wq,wr,hu,hp,u,pw,pr,code,wants,codes,fs⟩:=p;obtain⟨W0,hW0⟩:∃W,(w).alloc (.cells (zP k dup ret q t b id c cl keep hw wt wb wq wr hu hp u pw pr code sw sc sf) 29)=W:=⟨_,rfl⟩;have k0:Keeps (w) W0 []:=by rw[←hW0];exact Keeps.alloc _ _
 have r0:Row W0 (w).heap.size 29 (zP k dup ret q t b id c cl keep hw wt wb wq wr hu hp u pw pr code sw sc sf):=by rw[←hW0];exact Row.new _ _ _
 rw[←hsw,←hsc,←hsf]at hW0 r0;rw[←hsw,←hsc,←hsf];clear hsw hsc hsf;obtain⟨W1,hW1⟩:∃W1,W0.alloc (.cells zP0 29)=W1:=⟨_,rfl⟩;have r1:=r0.keeps (show Keeps W0 W1 []by rw[←hW1];exact Keeps.alloc _ _);have x0:=r1.cell 0;have x1:=r1.cell 1;have x2:=r1.cell 2;have x3:=r1.cell 3;have x4:=r1.cell 4;have x5:=r1.cell 5;have x6:=r1.cell 6;have x7:=r1.cell 7;have x8:=r1.cell 8;have x9:=r1.cell 9;have x10:=r1.cell 10;have x11:=r1.cell 11;have x12:=r1.cell 12;have x13:=r1.cell 13;have x14:=r1.cell 14;have x15:=r1.cell 15;have x16:=r1.cell 16;have x17:=r1.cell 17;have x18:=r1.cell 18;have x19:=r1.cell 19;have x20:=r1.cell 20;have x21:=r1.cell 21;have x22:=r1.cell 22;have x23:=r1.cell 23;simp only[zga,zgz,zgs]at x0 x1 x2 x3 x4 x5 x6 x7 x8 x9 x10 x11 x12 x13 x14 x15 x16 x17 x18 x19 x20 x21 x22 x23;have HK:=zh k0;clear r1 k0 r0
 go_enter Tryz.func139,Tryz.ntmps139
 go_wp2_with (refine wpList_store_new rfl (.tmp 2) (.tmp 3) rfl zP0 zP0 W0 hW1.symm (by kernel_rfl) rfl (by simp[Value.oneCell']) rfl rfl ?_;intro w5 hw5)
 refine zh ?_;obtain⟨X,hX⟩:∃X:Array Value,zP0=X:=⟨_,rfl⟩;rw[hX]at hw5;have q9:Row w5 W0.heap.size 29 X:=by rw[←hw5];exact Row.new _ _ _
 have k9:Keeps W0 w5 []:=by rw[←hw5];exact Keeps.alloc _ _
 have H9:=zh (And.intro q9 (HK.out.then_ k9));clear x0 x1 x2 x3 x4 x5 x6 x7 x8 x9 x10 x11 x12 x13 x14 x15 x16 x17 x18 x19 x20 x21 x22 x23;clear k9 hW0 hW1 q9 hw5
 go_wp2_with fail
 obtain⟨d,hu,hd⟩:=undPack;refine bodyPost_ret (results_row (s:=2) (cs:=X.toList) rfl rfl (range_row H9.out.1) hu hd (by rw[←hX];kernel_rfl)) rfl ⟨?_,H9.out.2⟩;rw[←hX]
set_option maxRecDepth 100000 in
set_option maxHeartbeats 2000000 in
theorem pkHas2_any (p:Pk)(Aw Ac Af:Option Addr)(nw cw nc cc nf cf:Nat)(w:World):Calls Tryz.prog 53 #[pkV p (.slice Aw nw cw) (.slice Ac nc cc) (.slice Af nf cf)] w fun e w' =>e= .returned (.agg (zP 0 false false 0 [] [] 0 [] false 0 false [] [] 0 false false false [] [] p.pr p.code (.slice none 0 0) (.slice none 0 0) (.slice none 0 0)))∧Keeps w w' []:=by
 obtain⟨sw,hsw⟩:∃x,(Value.slice Aw nw cw)=x:=⟨_,rfl⟩;obtain⟨sc,hsc⟩:∃x,(Value.slice Ac nc cc)=x:=⟨_,rfl⟩;obtain⟨sf,hsf⟩:∃x,(Value.slice Af nf cf)=x:=⟨_,rfl⟩;rw[hsw,hsc,hsf];obtain⟨k,dup,ret,q,t,b,id,c,cl,keep,hw,wt,wb,wq,wr,hu,hp,u,pw,pr,code,wants,codes,fs⟩:=p;obtain⟨W0,hW0⟩:∃W,(w).alloc (.cells (zP k dup ret q t b id c cl keep hw wt wb wq wr hu hp u pw pr code sw sc sf) 29)=W:=⟨_,rfl⟩;have k0:Keeps (w) W0 []:=by rw[←hW0];exact Keeps.alloc _ _
 have r0:Row W0 (w).heap.size 29 (zP k dup ret q t b id c cl keep hw wt wb wq wr hu hp u pw pr code sw sc sf):=by rw[←hW0];exact Row.new _ _ _
 rw[←hsw,←hsc,←hsf]at hW0 r0;rw[←hsw,←hsc,←hsf];clear hsw hsc hsf;obtain⟨W1,hW1⟩:∃W1,W0.alloc (.cells zP0 29)=W1:=⟨_,rfl⟩;have r1:=r0.keeps (show Keeps W0 W1 []by rw[←hW1];exact Keeps.alloc _ _);have x0:=r1.cell 0;have x1:=r1.cell 1;have x2:=r1.cell 2;have x3:=r1.cell 3;have x4:=r1.cell 4;have x5:=r1.cell 5;have x6:=r1.cell 6;have x7:=r1.cell 7;have x8:=r1.cell 8;have x9:=r1.cell 9;have x10:=r1.cell 10;have x11:=r1.cell 11;have x12:=r1.cell 12;have x13:=r1.cell 13;have x14:=r1.cell 14;have x15:=r1.cell 15;have x16:=r1.cell 16;have x17:=r1.cell 17;have x18:=r1.cell 18;have x19:=r1.cell 19;have x20:=r1.cell 20;have x21:=r1.cell 21;have x22:=r1.cell 22;have x23:=r1.cell 23;simp only[zga,zgz,zgs]at x0 x1 x2 x3 x4 x5 x6 x7 x8 x9 x10 x11 x12 x13 x14 x15 x16 x17 x18 x19 x20 x21 x22 x23;have HK:=zh k0;clear r1 k0 r0
 go_enter Tryz.func53,Tryz.ntmps53
 go_wp2_with (refine wpList_store_new rfl (.tmp 2) (.tmp 7) rfl (zP 0 false false 0 [] [] 0 [] false 0 false [] [] 0 false false false [] [] pr code (.slice none 0 0) (.slice none 0 0) (.slice none 0 0)) zP0 W0 hW1.symm (by kernel_rfl) rfl (by simp[Value.oneCell']) rfl rfl ?_;intro w5 hw5)
 refine zh ?_;obtain⟨X,hX⟩:∃X:Array Value,(zP 0 false false 0 [] [] 0 [] false 0 false [] [] 0 false false false [] [] pr code (.slice none 0 0) (.slice none 0 0) (.slice none 0 0))=X:=⟨_,rfl⟩;rw[hX]at hw5;have q9:Row w5 W0.heap.size 29 X:=by rw[←hw5];exact Row.new _ _ _
 have k9:Keeps W0 w5 []:=by rw[←hw5];exact Keeps.alloc _ _
 have H9:=zh (And.intro q9 (HK.out.then_ k9));clear x0 x1 x2 x3 x4 x5 x6 x7 x8 x9 x10 x11 x12 x13 x14 x15 x16 x17 x18 x19 x20 x21 x22 x23;clear k9 hW0 hW1 q9 hw5
 go_wp2_with fail
 obtain⟨d,hu,hd⟩:=undPack;refine bodyPost_ret (results_row (s:=2) (cs:=X.toList) rfl rfl (range_row H9.out.1) hu hd (by rw[←hX];kernel_rfl)) rfl ⟨?_,H9.out.2⟩;rw[←hX]
set_option maxRecDepth 100000 in
set_option maxHeartbeats 2000000 in
theorem pkHas1_any (p:Pk)(Aw Ac Af:Option Addr)(nw cw nc cc nf cf:Nat)(w:World):Calls Tryz.prog 128 #[pkV p (.slice Aw nw cw) (.slice Ac nc cc) (.slice Af nf cf)] w fun e w' =>e= .returned (.agg (zP 0 false false 0 [] [] 0 p.c p.cl p.keep p.hw p.wt p.wb p.wq p.wr p.hu p.hp p.u p.pw false 0 (.slice none 0 0) (.slice none 0 0) (.slice none 0 0)))∧Keeps w w' []:=by
 obtain⟨sw,hsw⟩:∃x,(Value.slice Aw nw cw)=x:=⟨_,rfl⟩;obtain⟨sc,hsc⟩:∃x,(Value.slice Ac nc cc)=x:=⟨_,rfl⟩;obtain⟨sf,hsf⟩:∃x,(Value.slice Af nf cf)=x:=⟨_,rfl⟩;rw[hsw,hsc,hsf];obtain⟨k,dup,ret,q,t,b,id,c,cl,keep,hw,wt,wb,wq,wr,hu,hp,u,pw,pr,code,wants,codes,fs⟩:=p;obtain⟨W0,hW0⟩:∃W,(w).alloc (.cells (zP k dup ret q t b id c cl keep hw wt wb wq wr hu hp u pw pr code sw sc sf) 29)=W:=⟨_,rfl⟩;have k0:Keeps (w) W0 []:=by rw[←hW0];exact Keeps.alloc _ _
 have r0:Row W0 (w).heap.size 29 (zP k dup ret q t b id c cl keep hw wt wb wq wr hu hp u pw pr code sw sc sf):=by rw[←hW0];exact Row.new _ _ _
 rw[←hsw,←hsc,←hsf]at hW0 r0;rw[←hsw,←hsc,←hsf];clear hsw hsc hsf;obtain⟨W1,hW1⟩:∃W1,W0.alloc (.cells zP0 29)=W1:=⟨_,rfl⟩;have r1:=r0.keeps (show Keeps W0 W1 []by rw[←hW1];exact Keeps.alloc _ _);have x0:=r1.cell 0;have x1:=r1.cell 1;have x2:=r1.cell 2;have x3:=r1.cell 3;have x4:=r1.cell 4;have x5:=r1.cell 5;have x6:=r1.cell 6;have x7:=r1.cell 7;have x8:=r1.cell 8;have x9:=r1.cell 9;have x10:=r1.cell 10;have x11:=r1.cell 11;have x12:=r1.cell 12;have x13:=r1.cell 13;have x14:=r1.cell 14;have x15:=r1.cell 15;have x16:=r1.cell 16;have x17:=r1.cell 17;have x18:=r1.cell 18;have x19:=r1.cell 19;have x20:=r1.cell 20;have x21:=r1.cell 21;have x22:=r1.cell 22;have x23:=r1.cell 23;simp only[zga,zgz,zgs]at x0 x1 x2 x3 x4 x5 x6 x7 x8 x9 x10 x11 x12 x13 x14 x15 x16 x17 x18 x19 x20 x21 x22 x23;have HK:=zh k0;clear r1 k0 r0
 go_enter Tryz.func128,Tryz.ntmps128
 go_wp2_with (refine wpList_store_new rfl (.tmp 2) (.tmp 21) rfl (zP 0 false false 0 [] [] 0 c cl keep hw wt wb wq wr hu hp u pw false 0 (.slice none 0 0) (.slice none 0 0) (.slice none 0 0)) zP0 W0 hW1.symm (by kernel_rfl) rfl (by simp[Value.oneCell']) rfl rfl ?_;intro w5 hw5)
 refine zh ?_;obtain⟨X,hX⟩:∃X:Array Value,(zP 0 false false 0 [] [] 0 c cl keep hw wt wb wq wr hu hp u pw false 0 (.slice none 0 0) (.slice none 0 0) (.slice none 0 0))=X:=⟨_,rfl⟩;rw[hX]at hw5;have q9:Row w5 W0.heap.size 29 X:=by rw[←hw5];exact Row.new _ _ _
 have k9:Keeps W0 w5 []:=by rw[←hw5];exact Keeps.alloc _ _
 have H9:=zh (And.intro q9 (HK.out.then_ k9));clear x0 x1 x2 x3 x4 x5 x6 x7 x8 x9 x10 x11 x12 x13 x14 x15 x16 x17 x18 x19 x20 x21 x22 x23;clear k9 hW0 hW1 q9 hw5
 go_wp2_with fail
 obtain⟨d,hu,hd⟩:=undPack;refine bodyPost_ret (results_row (s:=2) (cs:=X.toList) rfl rfl (range_row H9.out.1) hu hd (by rw[←hX];kernel_rfl)) rfl ⟨?_,H9.out.2⟩;rw[←hX]
set_option maxRecDepth 100000 in
set_option maxHeartbeats 2000000 in
theorem pkHas3_any (p:Pk)(Aw Ac Af:Option Addr)(nw cw nc cc nf cf:Nat)(w:World):Calls Tryz.prog 133 #[pkV p (.slice Aw nw cw) (.slice Ac nc cc) (.slice Af nf cf)] w fun e w' =>e= .returned (.agg (zP 0 p.dup p.ret p.q p.t p.b p.id [] false 0 false [] [] 0 false false false [] [] false 0 (.slice none 0 0) (.slice none 0 0) (.slice none 0 0)))∧Keeps w w' []:=by
 obtain⟨sw,hsw⟩:∃x,(Value.slice Aw nw cw)=x:=⟨_,rfl⟩;obtain⟨sc,hsc⟩:∃x,(Value.slice Ac nc cc)=x:=⟨_,rfl⟩;obtain⟨sf,hsf⟩:∃x,(Value.slice Af nf cf)=x:=⟨_,rfl⟩;rw[hsw,hsc,hsf];obtain⟨k,dup,ret,q,t,b,id,c,cl,keep,hw,wt,wb,wq,wr,hu,hp,u,pw,pr,code,wants,codes,fs⟩:=p;obtain⟨W0,hW0⟩:∃W,(w).alloc (.cells (zP k dup ret q t b id c cl keep hw wt wb wq wr hu hp u pw pr code sw sc sf) 29)=W:=⟨_,rfl⟩;have k0:Keeps (w) W0 []:=by rw[←hW0];exact Keeps.alloc _ _
 have r0:Row W0 (w).heap.size 29 (zP k dup ret q t b id c cl keep hw wt wb wq wr hu hp u pw pr code sw sc sf):=by rw[←hW0];exact Row.new _ _ _
 rw[←hsw,←hsc,←hsf]at hW0 r0;rw[←hsw,←hsc,←hsf];clear hsw hsc hsf;obtain⟨W1,hW1⟩:∃W1,W0.alloc (.cells zP0 29)=W1:=⟨_,rfl⟩;have r1:=r0.keeps (show Keeps W0 W1 []by rw[←hW1];exact Keeps.alloc _ _);have x0:=r1.cell 0;have x1:=r1.cell 1;have x2:=r1.cell 2;have x3:=r1.cell 3;have x4:=r1.cell 4;have x5:=r1.cell 5;have x6:=r1.cell 6;have x7:=r1.cell 7;have x8:=r1.cell 8;have x9:=r1.cell 9;have x10:=r1.cell 10;have x11:=r1.cell 11;have x12:=r1.cell 12;have x13:=r1.cell 13;have x14:=r1.cell 14;have x15:=r1.cell 15;have x16:=r1.cell 16;have x17:=r1.cell 17;have x18:=r1.cell 18;have x19:=r1.cell 19;have x20:=r1.cell 20;have x21:=r1.cell 21;have x22:=r1.cell 22;have x23:=r1.cell 23;simp only[zga,zgz,zgs]at x0 x1 x2 x3 x4 x5 x6 x7 x8 x9 x10 x11 x12 x13 x14 x15 x16 x17 x18 x19 x20 x21 x22 x23;have HK:=zh k0;clear r1 k0 r0
 go_enter Tryz.func133,Tryz.ntmps133
 go_wp2_with (refine wpList_store_new rfl (.tmp 2) (.tmp 15) rfl (zP 0 dup ret q t b id [] false 0 false [] [] 0 false false false [] [] false 0 (.slice none 0 0) (.slice none 0 0) (.slice none 0 0)) zP0 W0 hW1.symm (by kernel_rfl) rfl (by simp[Value.oneCell']) rfl rfl ?_;intro w5 hw5)
 refine zh ?_;obtain⟨X,hX⟩:∃X:Array Value,(zP 0 dup ret q t b id [] false 0 false [] [] 0 false false false [] [] false 0 (.slice none 0 0) (.slice none 0 0) (.slice none 0 0))=X:=⟨_,rfl⟩;rw[hX]at hw5;have q9:Row w5 W0.heap.size 29 X:=by rw[←hw5];exact Row.new _ _ _
 have k9:Keeps W0 w5 []:=by rw[←hw5];exact Keeps.alloc _ _
 have H9:=zh (And.intro q9 (HK.out.then_ k9));clear x0 x1 x2 x3 x4 x5 x6 x7 x8 x9 x10 x11 x12 x13 x14 x15 x16 x17 x18 x19 x20 x21 x22 x23;clear k9 hW0 hW1 q9 hw5
 go_wp2_with fail
 obtain⟨d,hu,hd⟩:=undPack;refine bodyPost_ret (results_row (s:=2) (cs:=X.toList) rfl rfl (range_row H9.out.1) hu hd (by rw[←hX];kernel_rfl)) rfl ⟨?_,H9.out.2⟩;rw[←hX]
set_option maxRecDepth 100000 in
set_option maxHeartbeats 2000000 in
theorem pkHas8_any (p:Pk)(Aw Ac Af:Option Addr)(nw cw nc cc nf cf:Nat)(w:World):Calls Tryz.prog 60 #[pkV p (.slice Aw nw cw) (.slice Ac nc cc) (.slice Af nf cf)] w fun e w' =>e= .returned (.agg (zP 0 false false 0 [] [] 0 [] false 0 false [] [] 0 false false false [] [] false 0 (.slice Aw nw cw) (.slice none 0 0) (.slice none 0 0)))∧Keeps w w' []:=by
 obtain⟨sw,hsw⟩:∃x,(Value.slice Aw nw cw)=x:=⟨_,rfl⟩;obtain⟨sc,hsc⟩:∃x,(Value.slice Ac nc cc)=x:=⟨_,rfl⟩;obtain⟨sf,hsf⟩:∃x,(Value.slice Af nf cf)=x:=⟨_,rfl⟩;rw[hsw,hsc,hsf];obtain⟨k,dup,ret,q,t,b,id,c,cl,keep,hw,wt,wb,wq,wr,hu,hp,u,pw,pr,code,wants,codes,fs⟩:=p;obtain⟨W0,hW0⟩:∃W,(w).alloc (.cells (zP k dup ret q t b id c cl keep hw wt wb wq wr hu hp u pw pr code sw sc sf) 29)=W:=⟨_,rfl⟩;have k0:Keeps (w) W0 []:=by rw[←hW0];exact Keeps.alloc _ _
 have r0:Row W0 (w).heap.size 29 (zP k dup ret q t b id c cl keep hw wt wb wq wr hu hp u pw pr code sw sc sf):=by rw[←hW0];exact Row.new _ _ _
 rw[←hsw,←hsc,←hsf]at hW0 r0;rw[←hsw,←hsc,←hsf];clear hsw hsc hsf;obtain⟨W1,hW1⟩:∃W1,W0.alloc (.cells zP0 29)=W1:=⟨_,rfl⟩;have r1:=r0.keeps (show Keeps W0 W1 []by rw[←hW1];exact Keeps.alloc _ _);have x0:=r1.cell 0;have x1:=r1.cell 1;have x2:=r1.cell 2;have x3:=r1.cell 3;have x4:=r1.cell 4;have x5:=r1.cell 5;have x6:=r1.cell 6;have x7:=r1.cell 7;have x8:=r1.cell 8;have x9:=r1.cell 9;have x10:=r1.cell 10;have x11:=r1.cell 11;have x12:=r1.cell 12;have x13:=r1.cell 13;have x14:=r1.cell 14;have x15:=r1.cell 15;have x16:=r1.cell 16;have x17:=r1.cell 17;have x18:=r1.cell 18;have x19:=r1.cell 19;have x20:=r1.cell 20;have x21:=r1.cell 21;have x22:=r1.cell 22;have x23:=r1.cell 23;simp only[zga,zgz,zgs]at x0 x1 x2 x3 x4 x5 x6 x7 x8 x9 x10 x11 x12 x13 x14 x15 x16 x17 x18 x19 x20 x21 x22 x23;have HK:=zh k0;clear r1 k0 r0
 go_enter Tryz.func60,Tryz.ntmps60
 go_wp2_with (refine wpList_store_new rfl (.tmp 2) (.tmp 5) rfl (zP 0 false false 0 [] [] 0 [] false 0 false [] [] 0 false false false [] [] false 0 (.slice Aw nw cw) (.slice none 0 0) (.slice none 0 0)) zP0 W0 hW1.symm (by kernel_rfl) rfl (by simp[Value.oneCell']) rfl rfl ?_;intro w5 hw5)
 refine zh ?_;obtain⟨X,hX⟩:∃X:Array Value,(zP 0 false false 0 [] [] 0 [] false 0 false [] [] 0 false false false [] [] false 0 (.slice Aw nw cw) (.slice none 0 0) (.slice none 0 0))=X:=⟨_,rfl⟩;rw[hX]at hw5;have q9:Row w5 W0.heap.size 29 X:=by rw[←hw5];exact Row.new _ _ _
 have k9:Keeps W0 w5 []:=by rw[←hw5];exact Keeps.alloc _ _
 have H9:=zh (And.intro q9 (HK.out.then_ k9));clear x0 x1 x2 x3 x4 x5 x6 x7 x8 x9 x10 x11 x12 x13 x14 x15 x16 x17 x18 x19 x20 x21 x22 x23;clear k9 hW0 hW1 q9 hw5
 go_wp2_with fail
 obtain⟨d,hu,hd⟩:=undPack;refine bodyPost_ret (results_row (s:=2) (cs:=X.toList) rfl rfl (range_row H9.out.1) hu hd (by rw[←hX];kernel_rfl)) rfl ⟨?_,H9.out.2⟩;rw[←hX]
set_option maxRecDepth 100000 in
set_option maxHeartbeats 2000000 in
theorem pkHas9_any (p:Pk)(Aw Ac Af:Option Addr)(nw cw nc cc nf cf:Nat)(w:World):Calls Tryz.prog 72 #[pkV p (.slice Aw nw cw) (.slice Ac nc cc) (.slice Af nf cf)] w fun e w' =>e= .returned (.agg (zP 0 false false 0 [] [] 0 [] false 0 false [] [] 0 false false false [] [] false 0 (.slice none 0 0) (.slice Ac nc cc) (.slice none 0 0)))∧Keeps w w' []:=by
 obtain⟨sw,hsw⟩:∃x,(Value.slice Aw nw cw)=x:=⟨_,rfl⟩;obtain⟨sc,hsc⟩:∃x,(Value.slice Ac nc cc)=x:=⟨_,rfl⟩;obtain⟨sf,hsf⟩:∃x,(Value.slice Af nf cf)=x:=⟨_,rfl⟩;rw[hsw,hsc,hsf];obtain⟨k,dup,ret,q,t,b,id,c,cl,keep,hw,wt,wb,wq,wr,hu,hp,u,pw,pr,code,wants,codes,fs⟩:=p;obtain⟨W0,hW0⟩:∃W,(w).alloc (.cells (zP k dup ret q t b id c cl keep hw wt wb wq wr hu hp u pw pr code sw sc sf) 29)=W:=⟨_,rfl⟩;have k0:Keeps (w) W0 []:=by rw[←hW0];exact Keeps.alloc _ _
 have r0:Row W0 (w).heap.size 29 (zP k dup ret q t b id c cl keep hw wt wb wq wr hu hp u pw pr code sw sc sf):=by rw[←hW0];exact Row.new _ _ _
 rw[←hsw,←hsc,←hsf]at hW0 r0;rw[←hsw,←hsc,←hsf];clear hsw hsc hsf;obtain⟨W1,hW1⟩:∃W1,W0.alloc (.cells zP0 29)=W1:=⟨_,rfl⟩;have r1:=r0.keeps (show Keeps W0 W1 []by rw[←hW1];exact Keeps.alloc _ _);have x0:=r1.cell 0;have x1:=r1.cell 1;have x2:=r1.cell 2;have x3:=r1.cell 3;have x4:=r1.cell 4;have x5:=r1.cell 5;have x6:=r1.cell 6;have x7:=r1.cell 7;have x8:=r1.cell 8;have x9:=r1.cell 9;have x10:=r1.cell 10;have x11:=r1.cell 11;have x12:=r1.cell 12;have x13:=r1.cell 13;have x14:=r1.cell 14;have x15:=r1.cell 15;have x16:=r1.cell 16;have x17:=r1.cell 17;have x18:=r1.cell 18;have x19:=r1.cell 19;have x20:=r1.cell 20;have x21:=r1.cell 21;have x22:=r1.cell 22;have x23:=r1.cell 23;simp only[zga,zgz,zgs]at x0 x1 x2 x3 x4 x5 x6 x7 x8 x9 x10 x11 x12 x13 x14 x15 x16 x17 x18 x19 x20 x21 x22 x23;have HK:=zh k0;clear r1 k0 r0
 go_enter Tryz.func72,Tryz.ntmps72
 go_wp2_with (refine wpList_store_new rfl (.tmp 2) (.tmp 5) rfl (zP 0 false false 0 [] [] 0 [] false 0 false [] [] 0 false false false [] [] false 0 (.slice none 0 0) (.slice Ac nc cc) (.slice none 0 0)) zP0 W0 hW1.symm (by kernel_rfl) rfl (by simp[Value.oneCell']) rfl rfl ?_;intro w5 hw5)
 refine zh ?_;obtain⟨X,hX⟩:∃X:Array Value,(zP 0 false false 0 [] [] 0 [] false 0 false [] [] 0 false false false [] [] false 0 (.slice none 0 0) (.slice Ac nc cc) (.slice none 0 0))=X:=⟨_,rfl⟩;rw[hX]at hw5;have q9:Row w5 W0.heap.size 29 X:=by rw[←hw5];exact Row.new _ _ _
 have k9:Keeps W0 w5 []:=by rw[←hw5];exact Keeps.alloc _ _
 have H9:=zh (And.intro q9 (HK.out.then_ k9));clear x0 x1 x2 x3 x4 x5 x6 x7 x8 x9 x10 x11 x12 x13 x14 x15 x16 x17 x18 x19 x20 x21 x22 x23;clear k9 hW0 hW1 q9 hw5
 go_wp2_with fail
 obtain⟨d,hu,hd⟩:=undPack;refine bodyPost_ret (results_row (s:=2) (cs:=X.toList) rfl rfl (range_row H9.out.1) hu hd (by rw[←hX];kernel_rfl)) rfl ⟨?_,H9.out.2⟩;rw[←hX]
set_option maxRecDepth 100000 in
set_option maxHeartbeats 2000000 in
theorem pkHas10_any (p:Pk)(Aw Ac Af:Option Addr)(nw cw nc cc nf cf:Nat)(w:World):Calls Tryz.prog 80 #[pkV p (.slice Aw nw cw) (.slice Ac nc cc) (.slice Af nf cf)] w fun e w' =>e= .returned (.agg (zP 0 false false 0 [] [] 0 [] false 0 false [] [] 0 false false false [] [] false 0 (.slice none 0 0) (.slice none 0 0) (.slice Af nf cf)))∧Keeps w w' []:=by
 obtain⟨sw,hsw⟩:∃x,(Value.slice Aw nw cw)=x:=⟨_,rfl⟩;obtain⟨sc,hsc⟩:∃x,(Value.slice Ac nc cc)=x:=⟨_,rfl⟩;obtain⟨sf,hsf⟩:∃x,(Value.slice Af nf cf)=x:=⟨_,rfl⟩;rw[hsw,hsc,hsf];obtain⟨k,dup,ret,q,t,b,id,c,cl,keep,hw,wt,wb,wq,wr,hu,hp,u,pw,pr,code,wants,codes,fs⟩:=p;obtain⟨W0,hW0⟩:∃W,(w).alloc (.cells (zP k dup ret q t b id c cl keep hw wt wb wq wr hu hp u pw pr code sw sc sf) 29)=W:=⟨_,rfl⟩;have k0:Keeps (w) W0 []:=by rw[←hW0];exact Keeps.alloc _ _
 have r0:Row W0 (w).heap.size 29 (zP k dup ret q t b id c cl keep hw wt wb wq wr hu hp u pw pr code sw sc sf):=by rw[←hW0];exact Row.new _ _ _
 rw[←hsw,←hsc,←hsf]at hW0 r0;rw[←hsw,←hsc,←hsf];clear hsw hsc hsf;obtain⟨W1,hW1⟩:∃W1,W0.alloc (.cells zP0 29)=W1:=⟨_,rfl⟩;have r1:=r0.keeps (show Keeps W0 W1 []by rw[←hW1];exact Keeps.alloc _ _);have x0:=r1.cell 0;have x1:=r1.cell 1;have x2:=r1.cell 2;have x3:=r1.cell 3;have x4:=r1.cell 4;have x5:=r1.cell 5;have x6:=r1.cell 6;have x7:=r1.cell 7;have x8:=r1.cell 8;have x9:=r1.cell 9;have x10:=r1.cell 10;have x11:=r1.cell 11;have x12:=r1.cell 12;have x13:=r1.cell 13;have x14:=r1.cell 14;have x15:=r1.cell 15;have x16:=r1.cell 16;have x17:=r1.cell 17;have x18:=r1.cell 18;have x19:=r1.cell 19;have x20:=r1.cell 20;have x21:=r1.cell 21;have x22:=r1.cell 22;have x23:=r1.cell 23;simp only[zga,zgz,zgs]at x0 x1 x2 x3 x4 x5 x6 x7 x8 x9 x10 x11 x12 x13 x14 x15 x16 x17 x18 x19 x20 x21 x22 x23;have HK:=zh k0;clear r1 k0 r0
 go_enter Tryz.func80,Tryz.ntmps80
 go_wp2_with (refine wpList_store_new rfl (.tmp 2) (.tmp 5) rfl (zP 0 false false 0 [] [] 0 [] false 0 false [] [] 0 false false false [] [] false 0 (.slice none 0 0) (.slice none 0 0) (.slice Af nf cf)) zP0 W0 hW1.symm (by kernel_rfl) rfl (by simp[Value.oneCell']) rfl rfl ?_;intro w5 hw5)
 refine zh ?_;obtain⟨X,hX⟩:∃X:Array Value,(zP 0 false false 0 [] [] 0 [] false 0 false [] [] 0 false false false [] [] false 0 (.slice none 0 0) (.slice none 0 0) (.slice Af nf cf))=X:=⟨_,rfl⟩;rw[hX]at hw5;have q9:Row w5 W0.heap.size 29 X:=by rw[←hw5];exact Row.new _ _ _
 have k9:Keeps W0 w5 []:=by rw[←hw5];exact Keeps.alloc _ _
 have H9:=zh (And.intro q9 (HK.out.then_ k9));clear x0 x1 x2 x3 x4 x5 x6 x7 x8 x9 x10 x11 x12 x13 x14 x15 x16 x17 x18 x19 x20 x21 x22 x23;clear k9 hW0 hW1 q9 hw5
 go_wp2_with fail
 obtain⟨d,hu,hd⟩:=undPack;refine bodyPost_ret (results_row (s:=2) (cs:=X.toList) rfl rfl (range_row H9.out.1) hu hd (by rw[←hX];kernel_rfl)) rfl ⟨?_,H9.out.2⟩;rw[←hX]
end Go.Proofs.YtahbikfbjenfpaaGreatDoor
