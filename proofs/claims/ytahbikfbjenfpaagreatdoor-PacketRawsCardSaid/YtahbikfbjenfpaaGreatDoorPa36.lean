/- Package packet: Text, Asks. The statements of packets: few. -/
import Derived.Test.YtahbikfbjenfpaaGreatDoorPa35

namespace Go.Proofs.YtahbikfbjenfpaaGreatDoor
open Go.RowKit Go.Shelf

def pkNames:List (List UInt8):= [[], [99,111,110,110,101,99,116], [99,111,110,110,97,99,107], [112,117,98,108,105,115,104], [112,117,98,97,99,107], [112,117,98,114,101,99], [112,117,98,114,101,108], [112,117,98,99,111,109,112], [115,117,98,115,99,114,105,98,101], [115,117,98,97,99,107], [117,110,115,117,98,115,99,114,105,98,101], [117,110,115,117,98,97,99,107], [112,105,110,103,114,101,113], [112,105,110,103,114,101,115,112], [100,105,115,99,111,110,110,101,99,116]]
abbrev pkNamesA:Array Value:= #[.string ⟨#[]⟩,.string ⟨#[99,111,110,110,101,99,116]⟩,.string ⟨#[99,111,110,110,97,99,107]⟩,.string ⟨#[112,117,98,108,105,115,104]⟩,.string ⟨#[112,117,98,97,99,107]⟩,.string ⟨#[112,117,98,114,101,99]⟩,.string ⟨#[112,117,98,114,101,108]⟩,.string ⟨#[112,117,98,99,111,109,112]⟩,.string ⟨#[115,117,98,115,99,114,105,98,101]⟩,.string ⟨#[115,117,98,97,99,107]⟩,.string ⟨#[117,110,115,117,98,115,99,114,105,98,101]⟩,.string ⟨#[117,110,115,117,98,97,99,107]⟩,.string ⟨#[112,105,110,103,114,101,113]⟩,.string ⟨#[112,105,110,103,114,101,115,112]⟩,.string ⟨#[100,105,115,99,111,110,110,101,99,116]⟩]
def pkText (k:Int):List UInt8:=if 1≤k∧k≤14 then pkNames.getD k.toNat []else []
set_option maxRecDepth 100000 in
theorem pkNamesIx1 (w:World):(Instr.index 93 (.agg pkNamesA) (.int .i64 1)).run Tryz.prog w= .ok (.string ⟨(pkText 1).toArray⟩) w:=by kernel_rfl
set_option maxRecDepth 100000 in
theorem pkNamesIx2 (w:World):(Instr.index 93 (.agg pkNamesA) (.int .i64 2)).run Tryz.prog w= .ok (.string ⟨(pkText 2).toArray⟩) w:=by kernel_rfl
set_option maxRecDepth 100000 in
theorem pkNamesIx3 (w:World):(Instr.index 93 (.agg pkNamesA) (.int .i64 3)).run Tryz.prog w= .ok (.string ⟨(pkText 3).toArray⟩) w:=by kernel_rfl
set_option maxRecDepth 100000 in
theorem pkNamesIx4 (w:World):(Instr.index 93 (.agg pkNamesA) (.int .i64 4)).run Tryz.prog w= .ok (.string ⟨(pkText 4).toArray⟩) w:=by kernel_rfl
set_option maxRecDepth 100000 in
theorem pkNamesIx5 (w:World):(Instr.index 93 (.agg pkNamesA) (.int .i64 5)).run Tryz.prog w= .ok (.string ⟨(pkText 5).toArray⟩) w:=by kernel_rfl
set_option maxRecDepth 100000 in
theorem pkNamesIx6 (w:World):(Instr.index 93 (.agg pkNamesA) (.int .i64 6)).run Tryz.prog w= .ok (.string ⟨(pkText 6).toArray⟩) w:=by kernel_rfl
set_option maxRecDepth 100000 in
theorem pkNamesIx7 (w:World):(Instr.index 93 (.agg pkNamesA) (.int .i64 7)).run Tryz.prog w= .ok (.string ⟨(pkText 7).toArray⟩) w:=by kernel_rfl
set_option maxRecDepth 100000 in
theorem pkNamesIx8 (w:World):(Instr.index 93 (.agg pkNamesA) (.int .i64 8)).run Tryz.prog w= .ok (.string ⟨(pkText 8).toArray⟩) w:=by kernel_rfl
set_option maxRecDepth 100000 in
theorem pkNamesIx9 (w:World):(Instr.index 93 (.agg pkNamesA) (.int .i64 9)).run Tryz.prog w= .ok (.string ⟨(pkText 9).toArray⟩) w:=by kernel_rfl
set_option maxRecDepth 100000 in
theorem pkNamesIx10 (w:World):(Instr.index 93 (.agg pkNamesA) (.int .i64 10)).run Tryz.prog w= .ok (.string ⟨(pkText 10).toArray⟩) w:=by kernel_rfl
set_option maxRecDepth 100000 in
theorem pkNamesIx11 (w:World):(Instr.index 93 (.agg pkNamesA) (.int .i64 11)).run Tryz.prog w= .ok (.string ⟨(pkText 11).toArray⟩) w:=by kernel_rfl
set_option maxRecDepth 100000 in
theorem pkNamesIx12 (w:World):(Instr.index 93 (.agg pkNamesA) (.int .i64 12)).run Tryz.prog w= .ok (.string ⟨(pkText 12).toArray⟩) w:=by kernel_rfl
set_option maxRecDepth 100000 in
theorem pkNamesIx13 (w:World):(Instr.index 93 (.agg pkNamesA) (.int .i64 13)).run Tryz.prog w= .ok (.string ⟨(pkText 13).toArray⟩) w:=by kernel_rfl
set_option maxRecDepth 100000 in
theorem pkNamesIx14 (w:World):(Instr.index 93 (.agg pkNamesA) (.int .i64 14)).run Tryz.prog w= .ok (.string ⟨(pkText 14).toArray⟩) w:=by kernel_rfl
theorem pkNamesIx {k:Int}(hk:1≤k∧k≤14)(w:World):(Instr.index 93 (.agg pkNamesA) (.int .i64 k)).run Tryz.prog w= .ok (.string ⟨(pkText k).toArray⟩) w:=by
 have h:k=1∨k=2∨k=3∨k=4∨k=5∨k=6∨k=7∨k=8∨k=9∨k=10∨k=11∨k=12∨k=13∨k=14:=by omega
 rcases h with h | h | h | h | h | h | h | h | h | h | h | h | h | h <;> subst h
 ·exact pkNamesIx1 w
 ·exact pkNamesIx2 w
 ·exact pkNamesIx3 w
 ·exact pkNamesIx4 w
 ·exact pkNamesIx5 w
 ·exact pkNamesIx6 w
 ·exact pkNamesIx7 w
 ·exact pkNamesIx8 w
 ·exact pkNamesIx9 w
 ·exact pkNamesIx10 w
 ·exact pkNamesIx11 w
 ·exact pkNamesIx12 w
 ·exact pkNamesIx13 w
 ·exact pkNamesIx14 w
theorem undNames:∃d,Tryz.prog.underlying 93=some d∧d.isRow=true:=⟨_,Tryz.underlying93,rfl⟩
set_option maxRecDepth 100000 in
set_option maxHeartbeats 2000000 in
theorem pkNames_any (w:World):Calls Tryz.prog 46 #[] w fun e w' =>e= .returned (.agg pkNamesA)∧Keeps w w' []:=by
 obtain⟨X,hX⟩:∃X:Array Value,X=pkNamesA:=⟨_,rfl⟩;rw[←hX];have HX:=zh hX;clear hX
 go_enter Tryz.func46,Tryz.ntmps46
 go_wp2_with (refine wpList_store_new rfl (.tmp 0) (.tmp 1) rfl pkNamesA #[.string ⟨#[]⟩,.string ⟨#[]⟩,.string ⟨#[]⟩,.string ⟨#[]⟩,.string ⟨#[]⟩,.string ⟨#[]⟩,.string ⟨#[]⟩,.string ⟨#[]⟩,.string ⟨#[]⟩,.string ⟨#[]⟩,.string ⟨#[]⟩,.string ⟨#[]⟩,.string ⟨#[]⟩,.string ⟨#[]⟩,.string ⟨#[]⟩] w rfl (by kernel_rfl) rfl (by simp[Value.oneCell']) rfl rfl ?_;intro w5 hw5)
 refine zh ?_;have q9:Row w5 w.heap.size 93 X:=by rw[←hw5,HX.out];exact Row.new _ _ _
 have k9:Keeps w w5 []:=by rw[←hw5];exact Keeps.alloc _ _
 have H9:=zh (And.intro q9 k9);clear k9 q9 hw5
 go_wp2_with fail
 obtain⟨d,hu,hd⟩:=undNames;exact bodyPost_ret (results_row (s:=0) (cs:=X.toList) rfl rfl (range_row H9.out.1) hu hd (by rw[HX.out];kernel_rfl)) rfl ⟨rfl,H9.out.2⟩
def pkTextE (k:Int):Int:=if 1≤k∧k≤14 then 0 else 2
set_option maxRecDepth 100000 in
set_option maxHeartbeats 1000000 in
theorem pkText_any (k:Int)(w:World):Calls Tryz.prog 19 #[.int .i64 k] w fun e w' =>e= .returned (.tuple #[.string ⟨(pkText k).toArray⟩,.int .i64 (pkTextE k)])∧Keeps w w' []:=by
 by_cases hk:1≤k∧k≤14
 ·have e2:pkTextE k=0:=if_pos hk
  have h1:decide (k < 1)=false:=by simp;omega
  have h2:decide (k > 14)=false:=by simp;omega
  have hi:=fun w=>pkNamesIx hk w
  obtain⟨T,hT⟩:∃T:Array UInt8,(pkText k).toArray=T:=⟨_,rfl⟩;rw[e2,hT];rw[hT]at hi;clear hT e2 hk;obtain⟨A,hA⟩:∃A,pkNamesA=A:=⟨_,rfl⟩;have HN:=zh (fun w=>pkNames_any w);rw[hA]at hi HN;clear hA
  go_enter Tryz.func19,Tryz.ntmps19
  go_wp2_with fail
  refine(HN.out _).mono ?_;rintro e w' ⟨rfl,hk'⟩;have HK:=zh hk';clear hk';have hi' :=hi w'
  go_wp2_with fail
  refine bodyPost_ret (v:= .tuple #[.string ⟨T⟩,.int .i64 0]) (by simp[results,Tryz.results19,go_sem]) rfl ⟨rfl,HK.out⟩
 ·have e1:pkText k= []:=if_neg hk
  have e2:pkTextE k=2:=if_neg hk;rw[e1,e2];clear e1 e2
  by_cases h1:k < 1
  ·have b1:decide (k < 1)=true:=by simpa using h1
   clear hk h1
   go_enter Tryz.func19,Tryz.ntmps19
   go_wp2_with fail
   refine bodyPost_ret (v:= .tuple #[.string ⟨#[]⟩,.int .i64 2]) (by simp[results,Tryz.results19,go_sem]) rfl ⟨rfl,Keeps.refl _ _⟩
  ·have b1:decide (k < 1)=false:=by simpa using h1
   have b2:decide (k > 14)=true:=by simp;omega
   clear hk h1
   go_enter Tryz.func19,Tryz.ntmps19
   go_wp2_with fail
   refine bodyPost_ret (v:= .tuple #[.string ⟨#[]⟩,.int .i64 2]) (by simp[results,Tryz.results19,go_sem]) rfl ⟨rfl,Keeps.refl _ _⟩

structure PkFewP (p:Pk):Prop where
 a:p.t.length+p.c.length+p.u.length≤3000
 b:p.b.length≤3000
 pw:p.pw.length≤3000
 wt:p.wt.length≤3000
 wb:p.wb.length≤3000
 lw:p.wants.length≤20
 lc:p.codes.length≤20
 lf:p.fs.length≤20
 ws:∀w∈p.wants,w.1.length≤300
 fs:∀f∈p.fs,f.length≤300
theorem PkFewP.sm {p:Pk}(h:PkFewP p):PkSm p where
 t:=by have:=h.a;omega
 b:=by have:=h.b;omega
 c:=by have:=h.a;omega
 u:=by have:=h.a;omega
 pw:=by have:=h.pw;omega
 wt:=by have:=h.wt;omega
 wb:=by have:=h.wb;omega
 wants:=⟨by have:=h.lw;omega,fun w hw=>by have:=h.ws w hw;omega⟩
 codes:=by have:=h.lc;omega
 fs:=⟨by have:=h.lf;omega,fun w hw=>by have:=h.fs w hw;omega⟩
/-- What few answers. -/
def FewPost (w:World)(p:Pk)(e:Ending)(w' :World):Prop:=Keeps w w' []∧(PkFewP p∧e= .returned (.bool true)∨¬PkFewP p∧e= .returned (.bool false))
set_option maxRecDepth 100000 in
set_option maxHeartbeats 2000000 in
theorem pkFew_any (p:Pk)(sw sc sf:Value)(w:World)(hl:PkL w p sw sc sf)(hb:p.t.length+p.c.length+p.u.length≤9223372036854775807):Calls Tryz.prog 9 #[pkV p sw sc sf] w (FewPost w p):=by
 obtain⟨A1,d1,A2,d2,A3,d3,rfl,rfl,rfl⟩:=hl.slices;have HL:=zh hl;clear hl;obtain⟨p0,hp0⟩:∃p0,p=p0:=⟨_,rfl⟩;have HQ:=zh hp0;rw[show FewPost w p=FewPost w p0 by rw[hp0]];clear hp0;obtain⟨k,dup,ret,q,t,b,id,c,cl,keep,hw,wt,wb,wq,wr,hu,hp,u,pw,pr,code,wants,codes,fs⟩:=p;obtain⟨W0,hW0⟩:∃W,w.alloc (.cells (zP k dup ret q t b id c cl keep hw wt wb wq wr hu hp u pw pr code (.slice A1 wants.length d1) (.slice A2 codes.length d2) (.slice A3 fs.length d3)) 29)=W:=⟨_,rfl⟩;have k0:Keeps w W0 []:=by rw[←hW0];exact Keeps.alloc _ _
 have r0:Row W0 w.heap.size 29 (zP k dup ret q t b id c cl keep hw wt wb wq wr hu hp u pw pr code (.slice A1 wants.length d1) (.slice A2 codes.length d2) (.slice A3 fs.length d3)):=by rw[←hW0];exact Row.new _ _ _
 have HK:=zh k0;have x4:=r0.cell 4;have x5:=r0.cell 5;have x7:=r0.cell 7;have x11:=r0.cell 11;have x12:=r0.cell 12;have x17:=r0.cell 17;have x18:=r0.cell 18;have x21:=r0.cell 21;have x22:=r0.cell 22;have x23:=r0.cell 23;simp only[zga,zgz,zgs]at x4 x5 x7 x11 x12 x17 x18 x21 x22 x23;have HLW:=zh (HL.out.keeps k0);clear r0 k0 HL;simp only at HQ hb HLW;have hs1:wrap64 ((t.length:Int)+(c.length:Int))=(t.length:Int)+(c.length:Int):=IntWalk.wrap64_in _ (by omega);have hs2:wrap64 ((t.length:Int)+(c.length:Int)+(u.length:Int))=(t.length:Int)+(c.length:Int)+(u.length:Int):=IntWalk.wrap64_in _ (by omega)
 go_enter Tryz.func9,Tryz.ntmps9
 go_upto_region 1 with fail
 clear hW0
 by_cases g1:(t.length:Int)+(c.length:Int)+(u.length:Int) > 3000
 ·skip
  have HN:=zh (show¬PkFewP p0 from(fun h=>by have:=h.a;rw[←HQ.out]at this;simp only at this;omega))
  go_wp2_with fail
  go_ret;exact⟨HK.out,.inr ⟨HN.out,rfl⟩⟩
 by_cases g2:(b.length:Int) > 3000
 ·skip
  have HN:=zh (show¬PkFewP p0 from(fun h=>by have:=h.b;rw[←HQ.out]at this;simp only at this;omega))
  go_wp2_with fail
  go_ret;exact⟨HK.out,.inr ⟨HN.out,rfl⟩⟩
 by_cases g3:(pw.length:Int) > 3000
 ·skip
  have HN:=zh (show¬PkFewP p0 from(fun h=>by have:=h.pw;rw[←HQ.out]at this;simp only at this;omega))
  go_wp2_with fail
  go_ret;exact⟨HK.out,.inr ⟨HN.out,rfl⟩⟩
 by_cases g4:(wt.length:Int) > 3000
 ·skip
  have HN:=zh (show¬PkFewP p0 from(fun h=>by have:=h.wt;rw[←HQ.out]at this;simp only at this;omega))
  go_wp2_with fail
  go_ret;exact⟨HK.out,.inr ⟨HN.out,rfl⟩⟩
 by_cases g5:(wb.length:Int) > 3000
 ·skip
  have HN:=zh (show¬PkFewP p0 from(fun h=>by have:=h.wb;rw[←HQ.out]at this;simp only at this;omega))
  go_wp2_with fail
  go_ret;exact⟨HK.out,.inr ⟨HN.out,rfl⟩⟩
 by_cases g6:(wants.length:Int) > 20
 ·skip
  have HN:=zh (show¬PkFewP p0 from(fun h=>by have:=h.lw;rw[←HQ.out]at this;simp only at this;omega))
  go_wp2_with fail
  go_ret;exact⟨HK.out,.inr ⟨HN.out,rfl⟩⟩
 by_cases g7:(codes.length:Int) > 20
 ·skip
  have HN:=zh (show¬PkFewP p0 from(fun h=>by have:=h.lc;rw[←HQ.out]at this;simp only at this;omega))
  go_wp2_with fail
  go_ret;exact⟨HK.out,.inr ⟨HN.out,rfl⟩⟩
 by_cases g8:(fs.length:Int) > 20
 ·skip
  have HN:=zh (show¬PkFewP p0 from(fun h=>by have:=h.lf;rw[←HQ.out]at this;simp only at this;omega))
  go_wp2_with fail
  go_ret;exact⟨HK.out,.inr ⟨HN.out,rfl⟩⟩
 have HG:=zh (And.intro g1 (And.intro g2 (And.intro g3 (And.intro g4 (And.intro g5 (And.intro g6 (And.intro g7 g8)))))))
 go_wp2_with fail
 clear g1 g2 g3 g4 g5 x4 x5 x7 x11 x12 x17 x18 x22 hs1 hs2
 go_loop [4] (fun i=>∃j:Nat,j≤wants.length∧i= .int .i64 j∧Hid (∀x∈wants.take j,x.1.length≤300)) (fun i=>wants.length - (intOf i).toNat)
 case atStart=>exact⟨0,by omega,rfl,zh (by simp)⟩
 case round=>
  obtain⟨j,hj,rfl,HR⟩:=hrel
  by_cases hjl:j < wants.length
  ·obtain⟨A9,d9,e9,hla⟩:=HLW.out.lw
   obtain⟨b1,o1,e1,_,hc⟩:=hla.at_ hjl;injection e9 with e9
   subst e9;subst e1;have m1:=hc 0 (by omega);have HW9:=zh (show∀n,wants[j].1.length≤n→∀x∈wants.take (j+1),x.1.length≤300∨x.1.length≤n from fun n hn x hx=>by
    rw[List.take_succ_eq_append_getElem hjl]at hx
    rcases List.mem_append.1 hx with hx | hx
    ·exact .inl (HR.out x hx)
    ·rw[List.mem_singleton]at hx
     subst hx;exact .inr hn)
   have HW8:=zh (show∀m:Nat,m < wants[j].1.length→300≤m→¬PkFewP p0 from fun m hm hm3 h=>by
    have:=h.ws wants[j] (by rw[←HQ.out];exact List.getElem_mem _);omega)
   simp only[wantC,zgz,Nat.add_zero]at m1;obtain⟨y,hy⟩:∃y,wants[j].1=y:=⟨_,rfl⟩;rw[hy]at m1 HW9 HW8;clear hla hc hy
   by_cases hyl:(y.length:Int) > 300
   ·have HN:=zh (HW8.out 300 (by omega) (by omega))
    go_wp2_with fail
    go_ret;exact⟨HK.out,.inr ⟨HN.out,rfl⟩⟩
   ·have HN:=zh (show∀x∈wants.take (j+1),x.1.length≤300 from fun x hx=>by
     rcases HW9.out 300 (by omega) x hx with h | h <;> exact h)
    go_wp2_with fail
    exact⟨⟨j+1,by omega,by go_num,HN⟩,by simp[intOf];omega⟩
  ·obtain rfl:j=wants.length:=by omega
   have HWS:=zh (show∀x∈wants,x.1.length≤300 by have:=HR.out;rw[List.take_length]at this;exact this);clear HR
   go_wp2_with fail
   go_loop [5] (fun i=>∃j:Nat,j≤fs.length∧i= .int .i64 j∧Hid (∀x∈fs.take j,x.length≤300)) (fun i=>fs.length - (intOf i).toNat)
   case atStart=>exact⟨0,by omega,rfl,zh (by simp)⟩
   case round=>
    obtain⟨j,hj,rfl,HR⟩:=hrel
    by_cases hjl:j < fs.length
    ·obtain⟨A9,d9,e9,hla⟩:=HLW.out.lf
     obtain⟨b1,o1,e1,_,hc⟩:=hla.at_ hjl;injection e9 with e9
     subst e9;subst e1;have m1:=hc 0 (by omega);have HW9:=zh (show∀n,fs[j].length≤n→∀x∈fs.take (j+1),x.length≤300∨x.length≤n from fun n hn x hx=>by
      rw[List.take_succ_eq_append_getElem hjl]at hx
      rcases List.mem_append.1 hx with hx | hx
      ·exact .inl (HR.out x hx)
      ·rw[List.mem_singleton]at hx
       subst hx;exact .inr hn)
     have HW8:=zh (show∀m:Nat,m < fs[j].length→300≤m→¬PkFewP p0 from fun m hm hm3 h=>by
      have:=h.fs fs[j] (by rw[←HQ.out];exact List.getElem_mem _);omega)
     simp only[txtV,zgz,Nat.add_zero,Nat.mul_one]at m1;obtain⟨y,hy⟩:∃y,fs[j]=y:=⟨_,rfl⟩;rw[hy]at m1 HW9 HW8;clear hla hc hy
     by_cases hyl:(y.length:Int) > 300
     ·have HN:=zh (HW8.out 300 (by omega) (by omega))
      go_wp2_with fail
      go_ret;exact⟨HK.out,.inr ⟨HN.out,rfl⟩⟩
     ·have HN:=zh (show∀x∈fs.take (j+1),x.length≤300 from fun x hx=>by
       rcases HW9.out 300 (by omega) x hx with h | h <;> exact h)
      go_wp2_with fail
      exact⟨⟨j+1,by omega,by go_num,HN⟩,by simp[intOf];omega⟩
    ·obtain rfl:j=fs.length:=by omega
     have HFS:=zh (show PkFewP p0 by
      have:=HR.out;rw[List.take_length]at this;have hg:=HG.out;rw[←HQ.out];exact⟨by simp only;omega,by simp only;omega,by simp only;omega,by simp only;omega,by simp only;omega,by simp only;omega,by simp only;omega,by simp only;omega,HWS.out,this⟩)
     go_wp2_with fail
     go_ret;exact⟨HK.out,.inl ⟨HFS.out,rfl⟩⟩
end Go.Proofs.YtahbikfbjenfpaaGreatDoor
