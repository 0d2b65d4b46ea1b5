/- Package packet: what a kind has of a packet, alone. -/
import Derived.Test.YtahbikfbjenfpaaGreatDoorPa17
set_option maxHeartbeats 2000000
set_option maxRecDepth 100000
namespace Go.Proofs.YtahbikfbjenfpaaGreatDoor
open Tryz Go.RowKit


theorem wT (p:Pk)(Aw Ac Af:Option Addr)(nw cw nc cc nf cf:Nat)(w:au):Calls prog 49 #[eO p (.slice Aw nw cw) (.slice Ac nc cc) (.slice Af nf cf)] w λe w' =>e= .returned (.agg eM)/\ae w w' []:=by
 obtain⟨sw,hsw⟩:∃x,(Value.slice Aw nw cw)=x:=⟨_,rfl⟩;obtain⟨sc,hsc⟩:∃x,(Value.slice Ac nc cc)=x:=⟨_,rfl⟩;obtain⟨sf,nY⟩:∃x,(Value.slice Af nf cf)=x:=⟨_,rfl⟩;rw[hsw,hsc,nY];obtain⟨k,dup,ret,q,t,b,id,c,cl,keep,hw,wt,wb,wq,wr,hu,hp,u,pw,pr,code,wants,aF,fs⟩:=p;obtain⟨W0,aV⟩:∃W,(w).alloc (.cells (zP k dup ret q t b id c cl keep hw wt wb wq wr hu hp u pw pr code sw sc sf) 29)=W:=⟨_,rfl⟩;have k0:ae (w) W0 []:=by rw[<-aV];exact ae.alloc _ _
 have r0:Row W0 (w).heap.size 29 (zP k dup ret q t b id c cl keep hw wt wb wq wr hu hp u pw pr code sw sc sf):=by rw[<-aV];exact Row.new _ _ _
 rw[<-hsw,<-hsc,<-nY]at aV r0;rw[<-hsw,<-hsc,<-nY];clear hsw hsc nY;obtain⟨W1,hW1⟩:∃W1,W0.alloc (.cells eM 29)=W1:=⟨_,rfl⟩;have r1:=r0.keeps (show ae W0 W1 []by rw[<-hW1];exact ae.alloc _ _);have x0:=r1.cell 0;have x1:=r1.cell 1;have x2:=r1.cell 2;have x3:=r1.cell 3;have x4:=r1.cell 4;have x5:=r1.cell 5;have x6:=r1.cell 6;have x7:=r1.cell 7;have x8:=r1.cell 8;have x9:=r1.cell 9;have iB:=r1.cell 10;have mz:=r1.cell 11;have lV:=r1.cell 12;have lU:=r1.cell 13;have mw:=r1.cell 14;have jf:=r1.cell 15;have hU:=r1.cell 16;have lT:=r1.cell 17;have mL:=r1.cell 18;have mK:=r1.cell 19;have x20:=r1.cell 20;have ju:=r1.cell 21;have mr:=r1.cell 22;have mJ:=r1.cell 23;simp only[cg,bU,fe]at x0 x1 x2 x3 x4 x5 x6 x7 x8 x9 iB mz lV lU mw jf hU lT mL mK x20 ju mr mJ;have HK:=zh k0;clear r1 k0 r0
 go_enter func49,ntmps49
 go_wp2_with (refine aQ rfl (.tmp 2) (.tmp 3) rfl eM eM W0 hW1.symm (by kernel_rfl) rfl (by simp[Value.oneCell']) rfl rfl ?_;intro w5 iy)
 refine zh ?_;obtain⟨X,hX⟩:∃X:Array Value,eM=X:=⟨_,rfl⟩;rw[hX]at iy;have q9:Row w5 W0.heap.size 29 X:=by rw[<-iy];exact Row.new _ _ _
 have k9:ae W0 w5 []:=by rw[<-iy];exact ae.alloc _ _
 have H9:=zh (And.intro q9 (HK.o.ah k9));clear x0 x1 x2 x3 x4 x5 x6 x7 x8 x9 iB mz lV lU mw jf hU lT mL mK x20 ju mr mJ;clear k9 aV hW1 q9 iy
 go_wp2_with fail
 obtain⟨d,hu,hd⟩:=cI;refine bD (aW (s:=2) (cs:=X.toList) rfl rfl (aD H9.o.1) hu hd (by rw[<-hX];kernel_rfl)) rfl ⟨?_,H9.o.2⟩;rw[<-hX]
theorem yS (p:Pk)(Aw Ac Af:Option Addr)(nw cw nc cc nf cf:Nat)(w:au):Calls prog 139 #[eO p (.slice Aw nw cw) (.slice Ac nc cc) (.slice Af nf cf)] w λe w' =>e= .returned (.agg eM)/\ae w w' []:=by
 obtain⟨sw,hsw⟩:∃x,(Value.slice Aw nw cw)=x:=⟨_,rfl⟩;obtain⟨sc,hsc⟩:∃x,(Value.slice Ac nc cc)=x:=⟨_,rfl⟩;obtain⟨sf,nY⟩:∃x,(Value.slice Af nf cf)=x:=⟨_,rfl⟩;rw[hsw,hsc,nY];obtain⟨k,dup,ret,q,t,b,id,c,cl,keep,hw,wt,wb,wq,wr,hu,hp,u,pw,pr,code,wants,aF,fs⟩:=p;obtain⟨W0,aV⟩:∃W,(w).alloc (.cells (zP k dup ret q t b id c cl keep hw wt wb wq wr hu hp u pw pr code sw sc sf) 29)=W:=⟨_,rfl⟩;have k0:ae (w) W0 []:=by rw[<-aV];exact ae.alloc _ _
 have r0:Row W0 (w).heap.size 29 (zP k dup ret q t b id c cl keep hw wt wb wq wr hu hp u pw pr code sw sc sf):=by rw[<-aV];exact Row.new _ _ _
 rw[<-hsw,<-hsc,<-nY]at aV r0;rw[<-hsw,<-hsc,<-nY];clear hsw hsc nY;obtain⟨W1,hW1⟩:∃W1,W0.alloc (.cells eM 29)=W1:=⟨_,rfl⟩;have r1:=r0.keeps (show ae W0 W1 []by rw[<-hW1];exact ae.alloc _ _);have x0:=r1.cell 0;have x1:=r1.cell 1;have x2:=r1.cell 2;have x3:=r1.cell 3;have x4:=r1.cell 4;have x5:=r1.cell 5;have x6:=r1.cell 6;have x7:=r1.cell 7;have x8:=r1.cell 8;have x9:=r1.cell 9;have iB:=r1.cell 10;have mz:=r1.cell 11;have lV:=r1.cell 12;have lU:=r1.cell 13;have mw:=r1.cell 14;have jf:=r1.cell 15;have hU:=r1.cell 16;have lT:=r1.cell 17;have mL:=r1.cell 18;have mK:=r1.cell 19;have x20:=r1.cell 20;have ju:=r1.cell 21;have mr:=r1.cell 22;have mJ:=r1.cell 23;simp only[cg,bU,fe]at x0 x1 x2 x3 x4 x5 x6 x7 x8 x9 iB mz lV lU mw jf hU lT mL mK x20 ju mr mJ;have HK:=zh k0;clear r1 k0 r0
 go_enter func139,ntmps139
 go_wp2_with (refine aQ rfl (.tmp 2) (.tmp 3) rfl eM eM W0 hW1.symm (by kernel_rfl) rfl (by simp[Value.oneCell']) rfl rfl ?_;intro w5 iy)
 refine zh ?_;obtain⟨X,hX⟩:∃X:Array Value,eM=X:=⟨_,rfl⟩;rw[hX]at iy;have q9:Row w5 W0.heap.size 29 X:=by rw[<-iy];exact Row.new _ _ _
 have k9:ae W0 w5 []:=by rw[<-iy];exact ae.alloc _ _
 have H9:=zh (And.intro q9 (HK.o.ah k9));clear x0 x1 x2 x3 x4 x5 x6 x7 x8 x9 iB mz lV lU mw jf hU lT mL mK x20 ju mr mJ;clear k9 aV hW1 q9 iy
 go_wp2_with fail
 obtain⟨d,hu,hd⟩:=cI;refine bD (aW (s:=2) (cs:=X.toList) rfl rfl (aD H9.o.1) hu hd (by rw[<-hX];kernel_rfl)) rfl ⟨?_,H9.o.2⟩;rw[<-hX]
theorem C4 (p:Pk)(Aw Ac Af:Option Addr)(nw cw nc cc nf cf:Nat)(w:au):Calls prog 53 #[eO p (.slice Aw nw cw) (.slice Ac nc cc) (.slice Af nf cf)] w λe w' =>e= .returned (.agg (zP 0 false false 0 [] [] 0 [] false 0 false [] [] 0 false false false [] [] p.pr p.code aN aN aN))/\ae w w' []:=by
 obtain⟨sw,hsw⟩:∃x,(Value.slice Aw nw cw)=x:=⟨_,rfl⟩;obtain⟨sc,hsc⟩:∃x,(Value.slice Ac nc cc)=x:=⟨_,rfl⟩;obtain⟨sf,nY⟩:∃x,(Value.slice Af nf cf)=x:=⟨_,rfl⟩;rw[hsw,hsc,nY];obtain⟨k,dup,ret,q,t,b,id,c,cl,keep,hw,wt,wb,wq,wr,hu,hp,u,pw,pr,code,wants,aF,fs⟩:=p;obtain⟨W0,aV⟩:∃W,(w).alloc (.cells (zP k dup ret q t b id c cl keep hw wt wb wq wr hu hp u pw pr code sw sc sf) 29)=W:=⟨_,rfl⟩;have k0:ae (w) W0 []:=by rw[<-aV];exact ae.alloc _ _
 have r0:Row W0 (w).heap.size 29 (zP k dup ret q t b id c cl keep hw wt wb wq wr hu hp u pw pr code sw sc sf):=by rw[<-aV];exact Row.new _ _ _
 rw[<-hsw,<-hsc,<-nY]at aV r0;rw[<-hsw,<-hsc,<-nY];clear hsw hsc nY;obtain⟨W1,hW1⟩:∃W1,W0.alloc (.cells eM 29)=W1:=⟨_,rfl⟩;have r1:=r0.keeps (show ae W0 W1 []by rw[<-hW1];exact ae.alloc _ _);have x0:=r1.cell 0;have x1:=r1.cell 1;have x2:=r1.cell 2;have x3:=r1.cell 3;have x4:=r1.cell 4;have x5:=r1.cell 5;have x6:=r1.cell 6;have x7:=r1.cell 7;have x8:=r1.cell 8;have x9:=r1.cell 9;have iB:=r1.cell 10;have mz:=r1.cell 11;have lV:=r1.cell 12;have lU:=r1.cell 13;have mw:=r1.cell 14;have jf:=r1.cell 15;have hU:=r1.cell 16;have lT:=r1.cell 17;have mL:=r1.cell 18;have mK:=r1.cell 19;have x20:=r1.cell 20;have ju:=r1.cell 21;have mr:=r1.cell 22;have mJ:=r1.cell 23;simp only[cg,bU,fe]at x0 x1 x2 x3 x4 x5 x6 x7 x8 x9 iB mz lV lU mw jf hU lT mL mK x20 ju mr mJ;have HK:=zh k0;clear r1 k0 r0
 go_enter func53,ntmps53
 go_wp2_with (refine aQ rfl (.tmp 2) (.tmp 7) rfl (zP 0 false false 0 [] [] 0 [] false 0 false [] [] 0 false false false [] [] pr code aN aN aN) eM W0 hW1.symm (by kernel_rfl) rfl (by simp[Value.oneCell']) rfl rfl ?_;intro w5 iy)
 refine zh ?_;obtain⟨X,hX⟩:∃X:Array Value,(zP 0 false false 0 [] [] 0 [] false 0 false [] [] 0 false false false [] [] pr code aN aN aN)=X:=⟨_,rfl⟩;rw[hX]at iy;have q9:Row w5 W0.heap.size 29 X:=by rw[<-iy];exact Row.new _ _ _
 have k9:ae W0 w5 []:=by rw[<-iy];exact ae.alloc _ _
 have H9:=zh (And.intro q9 (HK.o.ah k9));clear x0 x1 x2 x3 x4 x5 x6 x7 x8 x9 iB mz lV lU mw jf hU lT mL mK x20 ju mr mJ;clear k9 aV hW1 q9 iy
 go_wp2_with fail
 obtain⟨d,hu,hd⟩:=cI;refine bD (aW (s:=2) (cs:=X.toList) rfl rfl (aD H9.o.1) hu hd (by rw[<-hX];kernel_rfl)) rfl ⟨?_,H9.o.2⟩;rw[<-hX]
theorem C5 (p:Pk)(Aw Ac Af:Option Addr)(nw cw nc cc nf cf:Nat)(w:au):Calls prog 128 #[eO p (.slice Aw nw cw) (.slice Ac nc cc) (.slice Af nf cf)] w λe w' =>e= .returned (.agg (j_ 0 p.c p.cl p.keep p.hw p.wt p.wb p.wq p.wr p.hu p.hp p.u p.pw))/\ae w w' []:=by
 obtain⟨sw,hsw⟩:∃x,(Value.slice Aw nw cw)=x:=⟨_,rfl⟩;obtain⟨sc,hsc⟩:∃x,(Value.slice Ac nc cc)=x:=⟨_,rfl⟩;obtain⟨sf,nY⟩:∃x,(Value.slice Af nf cf)=x:=⟨_,rfl⟩;rw[hsw,hsc,nY];obtain⟨k,dup,ret,q,t,b,id,c,cl,keep,hw,wt,wb,wq,wr,hu,hp,u,pw,pr,code,wants,aF,fs⟩:=p;obtain⟨W0,aV⟩:∃W,(w).alloc (.cells (zP k dup ret q t b id c cl keep hw wt wb wq wr hu hp u pw pr code sw sc sf) 29)=W:=⟨_,rfl⟩;have k0:ae (w) W0 []:=by rw[<-aV];exact ae.alloc _ _
 have r0:Row W0 (w).heap.size 29 (zP k dup ret q t b id c cl keep hw wt wb wq wr hu hp u pw pr code sw sc sf):=by rw[<-aV];exact Row.new _ _ _
 rw[<-hsw,<-hsc,<-nY]at aV r0;rw[<-hsw,<-hsc,<-nY];clear hsw hsc nY;obtain⟨W1,hW1⟩:∃W1,W0.alloc (.cells eM 29)=W1:=⟨_,rfl⟩;have r1:=r0.keeps (show ae W0 W1 []by rw[<-hW1];exact ae.alloc _ _);have x0:=r1.cell 0;have x1:=r1.cell 1;have x2:=r1.cell 2;have x3:=r1.cell 3;have x4:=r1.cell 4;have x5:=r1.cell 5;have x6:=r1.cell 6;have x7:=r1.cell 7;have x8:=r1.cell 8;have x9:=r1.cell 9;have iB:=r1.cell 10;have mz:=r1.cell 11;have lV:=r1.cell 12;have lU:=r1.cell 13;have mw:=r1.cell 14;have jf:=r1.cell 15;have hU:=r1.cell 16;have lT:=r1.cell 17;have mL:=r1.cell 18;have mK:=r1.cell 19;have x20:=r1.cell 20;have ju:=r1.cell 21;have mr:=r1.cell 22;have mJ:=r1.cell 23;simp only[cg,bU,fe]at x0 x1 x2 x3 x4 x5 x6 x7 x8 x9 iB mz lV lU mw jf hU lT mL mK x20 ju mr mJ;have HK:=zh k0;clear r1 k0 r0
 go_enter func128,ntmps128
 go_wp2_with (refine aQ rfl (.tmp 2) (.tmp 21) rfl (j_ 0 c cl keep hw wt wb wq wr hu hp u pw) eM W0 hW1.symm (by kernel_rfl) rfl (by simp[Value.oneCell']) rfl rfl ?_;intro w5 iy)
 refine zh ?_;obtain⟨X,hX⟩:∃X:Array Value,(j_ 0 c cl keep hw wt wb wq wr hu hp u pw)=X:=⟨_,rfl⟩;rw[hX]at iy;have q9:Row w5 W0.heap.size 29 X:=by rw[<-iy];exact Row.new _ _ _
 have k9:ae W0 w5 []:=by rw[<-iy];exact ae.alloc _ _
 have H9:=zh (And.intro q9 (HK.o.ah k9));clear x0 x1 x2 x3 x4 x5 x6 x7 x8 x9 iB mz lV lU mw jf hU lT mL mK x20 ju mr mJ;clear k9 aV hW1 q9 iy
 go_wp2_with fail
 obtain⟨d,hu,hd⟩:=cI;refine bD (aW (s:=2) (cs:=X.toList) rfl rfl (aD H9.o.1) hu hd (by rw[<-hX];kernel_rfl)) rfl ⟨?_,H9.o.2⟩;rw[<-hX]
theorem C3 (p:Pk)(Aw Ac Af:Option Addr)(nw cw nc cc nf cf:Nat)(w:au):Calls prog 133 #[eO p (.slice Aw nw cw) (.slice Ac nc cc) (.slice Af nf cf)] w λe w' =>e= .returned (.agg (zP 0 p.dup p.ret p.q p.t p.b p.id [] false 0 false [] [] 0 false false false [] [] false 0 aN aN aN))/\ae w w' []:=by
 obtain⟨sw,hsw⟩:∃x,(Value.slice Aw nw cw)=x:=⟨_,rfl⟩;obtain⟨sc,hsc⟩:∃x,(Value.slice Ac nc cc)=x:=⟨_,rfl⟩;obtain⟨sf,nY⟩:∃x,(Value.slice Af nf cf)=x:=⟨_,rfl⟩;rw[hsw,hsc,nY];obtain⟨k,dup,ret,q,t,b,id,c,cl,keep,hw,wt,wb,wq,wr,hu,hp,u,pw,pr,code,wants,aF,fs⟩:=p;obtain⟨W0,aV⟩:∃W,(w).alloc (.cells (zP k dup ret q t b id c cl keep hw wt wb wq wr hu hp u pw pr code sw sc sf) 29)=W:=⟨_,rfl⟩;have k0:ae (w) W0 []:=by rw[<-aV];exact ae.alloc _ _
 have r0:Row W0 (w).heap.size 29 (zP k dup ret q t b id c cl keep hw wt wb wq wr hu hp u pw pr code sw sc sf):=by rw[<-aV];exact Row.new _ _ _
 rw[<-hsw,<-hsc,<-nY]at aV r0;rw[<-hsw,<-hsc,<-nY];clear hsw hsc nY;obtain⟨W1,hW1⟩:∃W1,W0.alloc (.cells eM 29)=W1:=⟨_,rfl⟩;have r1:=r0.keeps (show ae W0 W1 []by rw[<-hW1];exact ae.alloc _ _);have x0:=r1.cell 0;have x1:=r1.cell 1;have x2:=r1.cell 2;have x3:=r1.cell 3;have x4:=r1.cell 4;have x5:=r1.cell 5;have x6:=r1.cell 6;have x7:=r1.cell 7;have x8:=r1.cell 8;have x9:=r1.cell 9;have iB:=r1.cell 10;have mz:=r1.cell 11;have lV:=r1.cell 12;have lU:=r1.cell 13;have mw:=r1.cell 14;have jf:=r1.cell 15;have hU:=r1.cell 16;have lT:=r1.cell 17;have mL:=r1.cell 18;have mK:=r1.cell 19;have x20:=r1.cell 20;have ju:=r1.cell 21;have mr:=r1.cell 22;have mJ:=r1.cell 23;simp only[cg,bU,fe]at x0 x1 x2 x3 x4 x5 x6 x7 x8 x9 iB mz lV lU mw jf hU lT mL mK x20 ju mr mJ;have HK:=zh k0;clear r1 k0 r0
 go_enter func133,ntmps133
 go_wp2_with (refine aQ rfl (.tmp 2) (.tmp 15) rfl (zP 0 dup ret q t b id [] false 0 false [] [] 0 false false false [] [] false 0 aN aN aN) eM W0 hW1.symm (by kernel_rfl) rfl (by simp[Value.oneCell']) rfl rfl ?_;intro w5 iy)
 refine zh ?_;obtain⟨X,hX⟩:∃X:Array Value,(zP 0 dup ret q t b id [] false 0 false [] [] 0 false false false [] [] false 0 aN aN aN)=X:=⟨_,rfl⟩;rw[hX]at iy;have q9:Row w5 W0.heap.size 29 X:=by rw[<-iy];exact Row.new _ _ _
 have k9:ae W0 w5 []:=by rw[<-iy];exact ae.alloc _ _
 have H9:=zh (And.intro q9 (HK.o.ah k9));clear x0 x1 x2 x3 x4 x5 x6 x7 x8 x9 iB mz lV lU mw jf hU lT mL mK x20 ju mr mJ;clear k9 aV hW1 q9 iy
 go_wp2_with fail
 obtain⟨d,hu,hd⟩:=cI;refine bD (aW (s:=2) (cs:=X.toList) rfl rfl (aD H9.o.1) hu hd (by rw[<-hX];kernel_rfl)) rfl ⟨?_,H9.o.2⟩;rw[<-hX]
theorem C2 (p:Pk)(Aw Ac Af:Option Addr)(nw cw nc cc nf cf:Nat)(w:au):Calls prog 60 #[eO p (.slice Aw nw cw) (.slice Ac nc cc) (.slice Af nf cf)] w λe w' =>e= .returned (.agg (tf 0 0 (.slice Aw nw cw) aN aN))/\ae w w' []:=by
 obtain⟨sw,hsw⟩:∃x,(Value.slice Aw nw cw)=x:=⟨_,rfl⟩;obtain⟨sc,hsc⟩:∃x,(Value.slice Ac nc cc)=x:=⟨_,rfl⟩;obtain⟨sf,nY⟩:∃x,(Value.slice Af nf cf)=x:=⟨_,rfl⟩;rw[hsw,hsc,nY];obtain⟨k,dup,ret,q,t,b,id,c,cl,keep,hw,wt,wb,wq,wr,hu,hp,u,pw,pr,code,wants,aF,fs⟩:=p;obtain⟨W0,aV⟩:∃W,(w).alloc (.cells (zP k dup ret q t b id c cl keep hw wt wb wq wr hu hp u pw pr code sw sc sf) 29)=W:=⟨_,rfl⟩;have k0:ae (w) W0 []:=by rw[<-aV];exact ae.alloc _ _
 have r0:Row W0 (w).heap.size 29 (zP k dup ret q t b id c cl keep hw wt wb wq wr hu hp u pw pr code sw sc sf):=by rw[<-aV];exact Row.new _ _ _
 rw[<-hsw,<-hsc,<-nY]at aV r0;rw[<-hsw,<-hsc,<-nY];clear hsw hsc nY;obtain⟨W1,hW1⟩:∃W1,W0.alloc (.cells eM 29)=W1:=⟨_,rfl⟩;have r1:=r0.keeps (show ae W0 W1 []by rw[<-hW1];exact ae.alloc _ _);have x0:=r1.cell 0;have x1:=r1.cell 1;have x2:=r1.cell 2;have x3:=r1.cell 3;have x4:=r1.cell 4;have x5:=r1.cell 5;have x6:=r1.cell 6;have x7:=r1.cell 7;have x8:=r1.cell 8;have x9:=r1.cell 9;have iB:=r1.cell 10;have mz:=r1.cell 11;have lV:=r1.cell 12;have lU:=r1.cell 13;have mw:=r1.cell 14;have jf:=r1.cell 15;have hU:=r1.cell 16;have lT:=r1.cell 17;have mL:=r1.cell 18;have mK:=r1.cell 19;have x20:=r1.cell 20;have ju:=r1.cell 21;have mr:=r1.cell 22;have mJ:=r1.cell 23;simp only[cg,bU,fe]at x0 x1 x2 x3 x4 x5 x6 x7 x8 x9 iB mz lV lU mw jf hU lT mL mK x20 ju mr mJ;have HK:=zh k0;clear r1 k0 r0
 go_enter func60,ntmps60
 go_wp2_with (refine aQ rfl (.tmp 2) (.tmp 5) rfl (tf 0 0 (.slice Aw nw cw) aN aN) eM W0 hW1.symm (by kernel_rfl) rfl (by simp[Value.oneCell']) rfl rfl ?_;intro w5 iy)
 refine zh ?_;obtain⟨X,hX⟩:∃X:Array Value,(tf 0 0 (.slice Aw nw cw) aN aN)=X:=⟨_,rfl⟩;rw[hX]at iy;have q9:Row w5 W0.heap.size 29 X:=by rw[<-iy];exact Row.new _ _ _
 have k9:ae W0 w5 []:=by rw[<-iy];exact ae.alloc _ _
 have H9:=zh (And.intro q9 (HK.o.ah k9));clear x0 x1 x2 x3 x4 x5 x6 x7 x8 x9 iB mz lV lU mw jf hU lT mL mK x20 ju mr mJ;clear k9 aV hW1 q9 iy
 go_wp2_with fail
 obtain⟨d,hu,hd⟩:=cI;refine bD (aW (s:=2) (cs:=X.toList) rfl rfl (aD H9.o.1) hu hd (by rw[<-hX];kernel_rfl)) rfl ⟨?_,H9.o.2⟩;rw[<-hX]
theorem C0 (p:Pk)(Aw Ac Af:Option Addr)(nw cw nc cc nf cf:Nat)(w:au):Calls prog 72 #[eO p (.slice Aw nw cw) (.slice Ac nc cc) (.slice Af nf cf)] w λe w' =>e= .returned (.agg (tf 0 0 aN (.slice Ac nc cc) aN))/\ae w w' []:=by
 obtain⟨sw,hsw⟩:∃x,(Value.slice Aw nw cw)=x:=⟨_,rfl⟩;obtain⟨sc,hsc⟩:∃x,(Value.slice Ac nc cc)=x:=⟨_,rfl⟩;obtain⟨sf,nY⟩:∃x,(Value.slice Af nf cf)=x:=⟨_,rfl⟩;rw[hsw,hsc,nY];obtain⟨k,dup,ret,q,t,b,id,c,cl,keep,hw,wt,wb,wq,wr,hu,hp,u,pw,pr,code,wants,aF,fs⟩:=p;obtain⟨W0,aV⟩:∃W,(w).alloc (.cells (zP k dup ret q t b id c cl keep hw wt wb wq wr hu hp u pw pr code sw sc sf) 29)=W:=⟨_,rfl⟩;have k0:ae (w) W0 []:=by rw[<-aV];exact ae.alloc _ _
 have r0:Row W0 (w).heap.size 29 (zP k dup ret q t b id c cl keep hw wt wb wq wr hu hp u pw pr code sw sc sf):=by rw[<-aV];exact Row.new _ _ _
 rw[<-hsw,<-hsc,<-nY]at aV r0;rw[<-hsw,<-hsc,<-nY];clear hsw hsc nY;obtain⟨W1,hW1⟩:∃W1,W0.alloc (.cells eM 29)=W1:=⟨_,rfl⟩;have r1:=r0.keeps (show ae W0 W1 []by rw[<-hW1];exact ae.alloc _ _);have x0:=r1.cell 0;have x1:=r1.cell 1;have x2:=r1.cell 2;have x3:=r1.cell 3;have x4:=r1.cell 4;have x5:=r1.cell 5;have x6:=r1.cell 6;have x7:=r1.cell 7;have x8:=r1.cell 8;have x9:=r1.cell 9;have iB:=r1.cell 10;have mz:=r1.cell 11;have lV:=r1.cell 12;have lU:=r1.cell 13;have mw:=r1.cell 14;have jf:=r1.cell 15;have hU:=r1.cell 16;have lT:=r1.cell 17;have mL:=r1.cell 18;have mK:=r1.cell 19;have x20:=r1.cell 20;have ju:=r1.cell 21;have mr:=r1.cell 22;have mJ:=r1.cell 23;simp only[cg,bU,fe]at x0 x1 x2 x3 x4 x5 x6 x7 x8 x9 iB mz lV lU mw jf hU lT mL mK x20 ju mr mJ;have HK:=zh k0;clear r1 k0 r0
 go_enter func72,ntmps72
 go_wp2_with (refine aQ rfl (.tmp 2) (.tmp 5) rfl (tf 0 0 aN (.slice Ac nc cc) aN) eM W0 hW1.symm (by kernel_rfl) rfl (by simp[Value.oneCell']) rfl rfl ?_;intro w5 iy)
 refine zh ?_;obtain⟨X,hX⟩:∃X:Array Value,(tf 0 0 aN (.slice Ac nc cc) aN)=X:=⟨_,rfl⟩;rw[hX]at iy;have q9:Row w5 W0.heap.size 29 X:=by rw[<-iy];exact Row.new _ _ _
 have k9:ae W0 w5 []:=by rw[<-iy];exact ae.alloc _ _
 have H9:=zh (And.intro q9 (HK.o.ah k9));clear x0 x1 x2 x3 x4 x5 x6 x7 x8 x9 iB mz lV lU mw jf hU lT mL mK x20 ju mr mJ;clear k9 aV hW1 q9 iy
 go_wp2_with fail
 obtain⟨d,hu,hd⟩:=cI;refine bD (aW (s:=2) (cs:=X.toList) rfl rfl (aD H9.o.1) hu hd (by rw[<-hX];kernel_rfl)) rfl ⟨?_,H9.o.2⟩;rw[<-hX]
theorem A_ (p:Pk)(Aw Ac Af:Option Addr)(nw cw nc cc nf cf:Nat)(w:au):Calls prog 80 #[eO p (.slice Aw nw cw) (.slice Ac nc cc) (.slice Af nf cf)] w λe w' =>e= .returned (.agg (tf 0 0 aN aN (.slice Af nf cf)))/\ae w w' []:=by
 obtain⟨sw,hsw⟩:∃x,(Value.slice Aw nw cw)=x:=⟨_,rfl⟩;obtain⟨sc,hsc⟩:∃x,(Value.slice Ac nc cc)=x:=⟨_,rfl⟩;obtain⟨sf,nY⟩:∃x,(Value.slice Af nf cf)=x:=⟨_,rfl⟩;rw[hsw,hsc,nY];obtain⟨k,dup,ret,q,t,b,id,c,cl,keep,hw,wt,wb,wq,wr,hu,hp,u,pw,pr,code,wants,aF,fs⟩:=p;obtain⟨W0,aV⟩:∃W,(w).alloc (.cells (zP k dup ret q t b id c cl keep hw wt wb wq wr hu hp u pw pr code sw sc sf) 29)=W:=⟨_,rfl⟩;have k0:ae (w) W0 []:=by rw[<-aV];exact ae.alloc _ _
 have r0:Row W0 (w).heap.size 29 (zP k dup ret q t b id c cl keep hw wt wb wq wr hu hp u pw pr code sw sc sf):=by rw[<-aV];exact Row.new _ _ _
 rw[<-hsw,<-hsc,<-nY]at aV r0;rw[<-hsw,<-hsc,<-nY];clear hsw hsc nY;obtain⟨W1,hW1⟩:∃W1,W0.alloc (.cells eM 29)=W1:=⟨_,rfl⟩;have r1:=r0.keeps (show ae W0 W1 []by rw[<-hW1];exact ae.alloc _ _);have x0:=r1.cell 0;have x1:=r1.cell 1;have x2:=r1.cell 2;have x3:=r1.cell 3;have x4:=r1.cell 4;have x5:=r1.cell 5;have x6:=r1.cell 6;have x7:=r1.cell 7;have x8:=r1.cell 8;have x9:=r1.cell 9;have iB:=r1.cell 10;have mz:=r1.cell 11;have lV:=r1.cell 12;have lU:=r1.cell 13;have mw:=r1.cell 14;have jf:=r1.cell 15;have hU:=r1.cell 16;have lT:=r1.cell 17;have mL:=r1.cell 18;have mK:=r1.cell 19;have x20:=r1.cell 20;have ju:=r1.cell 21;have mr:=r1.cell 22;have mJ:=r1.cell 23;simp only[cg,bU,fe]at x0 x1 x2 x3 x4 x5 x6 x7 x8 x9 iB mz lV lU mw jf hU lT mL mK x20 ju mr mJ;have HK:=zh k0;clear r1 k0 r0
 go_enter func80,ntmps80
 go_wp2_with (refine aQ rfl (.tmp 2) (.tmp 5) rfl (tf 0 0 aN aN (.slice Af nf cf)) eM W0 hW1.symm (by kernel_rfl) rfl (by simp[Value.oneCell']) rfl rfl ?_;intro w5 iy)
 refine zh ?_;obtain⟨X,hX⟩:∃X:Array Value,(tf 0 0 aN aN (.slice Af nf cf))=X:=⟨_,rfl⟩;rw[hX]at iy;have q9:Row w5 W0.heap.size 29 X:=by rw[<-iy];exact Row.new _ _ _
 have k9:ae W0 w5 []:=by rw[<-iy];exact ae.alloc _ _
 have H9:=zh (And.intro q9 (HK.o.ah k9));clear x0 x1 x2 x3 x4 x5 x6 x7 x8 x9 iB mz lV lU mw jf hU lT mL mK x20 ju mr mJ;clear k9 aV hW1 q9 iy
 go_wp2_with fail
 obtain⟨d,hu,hd⟩:=cI;refine bD (aW (s:=2) (cs:=X.toList) rfl rfl (aD H9.o.1) hu hd (by rw[<-hX];kernel_rfl)) rfl ⟨?_,H9.o.2⟩;rw[<-hX]
end Go.Proofs.YtahbikfbjenfpaaGreatDoor
