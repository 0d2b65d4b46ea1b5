/- Package packet: Text, Asks. The statements of packets: few. -/
import Derived.Test.YtahbikfbjenfpaaGreatDoorPa35
set_option maxHeartbeats 2000000
set_option maxRecDepth 100000
namespace Go.Proofs.YtahbikfbjenfpaaGreatDoor
open Tryz Go.RowKit Go.Shelf

def JA:List aG:= [[], [99,111,110,110,101,99,116], [99,111,110,110,97,99,107], [112,117,98,108,105,115,104], [112,117,98,97,99,107], [112,117,98,114,101,99], [112,117,98,114,101,108], [112,117,98,99,111,109,112], [115,117,98,115,99,114,105,98,101], [115,117,98,97,99,107], [117,110,115,117,98,115,99,114,105,98,101], [117,110,115,117,98,97,99,107], [112,105,110,103,114,101,113], [112,105,110,103,114,101,115,112], [100,105,115,99,111,110,110,101,99,116]]
abbrev dL:Array Value:= #[.string ⟨#[]⟩,.string ⟨#[99,111,110,110,101,99,116]⟩,.string ⟨#[99,111,110,110,97,99,107]⟩,.string ⟨#[112,117,98,108,105,115,104]⟩,.string ⟨#[112,117,98,97,99,107]⟩,.string ⟨#[112,117,98,114,101,99]⟩,.string ⟨#[112,117,98,114,101,108]⟩,.string ⟨#[112,117,98,99,111,109,112]⟩,.string ⟨#[115,117,98,115,99,114,105,98,101]⟩,.string ⟨#[115,117,98,97,99,107]⟩,.string ⟨#[117,110,115,117,98,115,99,114,105,98,101]⟩,.string ⟨#[117,110,115,117,98,97,99,107]⟩,.string ⟨#[112,105,110,103,114,101,113]⟩,.string ⟨#[112,105,110,103,114,101,115,112]⟩,.string ⟨#[100,105,115,99,111,110,110,101,99,116]⟩]
def gG (k:Int):aG:=if 1<=k/\k<=14 then JA.getD k.toNat []else []
theorem CO (w:au):(Instr.index 93 (.agg dL) (.int .i64 1)).run prog w= .ok (.string ⟨(gG 1).toArray⟩) w:=by kernel_rfl
theorem CM (w:au):(Instr.index 93 (.agg dL) (.int .i64 2)).run prog w= .ok (.string ⟨(gG 2).toArray⟩) w:=by kernel_rfl
theorem CL (w:au):(Instr.index 93 (.agg dL) (.int .i64 3)).run prog w= .ok (.string ⟨(gG 3).toArray⟩) w:=by kernel_rfl
theorem CJ (w:au):(Instr.index 93 (.agg dL) (.int .i64 4)).run prog w= .ok (.string ⟨(gG 4).toArray⟩) w:=by kernel_rfl
theorem CH (w:au):(Instr.index 93 (.agg dL) (.int .i64 5)).run prog w= .ok (.string ⟨(gG 5).toArray⟩) w:=by kernel_rfl
theorem CG (w:au):(Instr.index 93 (.agg dL) (.int .i64 6)).run prog w= .ok (.string ⟨(gG 6).toArray⟩) w:=by kernel_rfl
theorem CF (w:au):(Instr.index 93 (.agg dL) (.int .i64 7)).run prog w= .ok (.string ⟨(gG 7).toArray⟩) w:=by kernel_rfl
theorem CD (w:au):(Instr.index 93 (.agg dL) (.int .i64 8)).run prog w= .ok (.string ⟨(gG 8).toArray⟩) w:=by kernel_rfl
theorem CB (w:au):(Instr.index 93 (.agg dL) (.int .i64 9)).run prog w= .ok (.string ⟨(gG 9).toArray⟩) w:=by kernel_rfl
theorem AQ (w:au):(Instr.index 93 (.agg dL) (.int .i64 10)).run prog w= .ok (.string ⟨(gG 10).toArray⟩) w:=by kernel_rfl
theorem AP (w:au):(Instr.index 93 (.agg dL) (.int .i64 11)).run prog w= .ok (.string ⟨(gG 11).toArray⟩) w:=by kernel_rfl
theorem AO (w:au):(Instr.index 93 (.agg dL) (.int .i64 12)).run prog w= .ok (.string ⟨(gG 12).toArray⟩) w:=by kernel_rfl
theorem AK (w:au):(Instr.index 93 (.agg dL) (.int .i64 13)).run prog w= .ok (.string ⟨(gG 13).toArray⟩) w:=by kernel_rfl
theorem AJ (w:au):(Instr.index 93 (.agg dL) (.int .i64 14)).run prog w= .ok (.string ⟨(gG 14).toArray⟩) w:=by kernel_rfl
theorem Fc {k:Int}(hk:1<=k/\k<=14)(w:au):(Instr.index 93 (.agg dL) (.int .i64 k)).run prog w= .ok (.string ⟨(gG k).toArray⟩) w:=by
 have h:k=1\/k=2\/k=3\/k=4\/k=5\/k=6\/k=7\/k=8\/k=9\/k=10\/k=11\/k=12\/k=13\/k=14:=by omega
 rcases h with h | h | h | h | h | h | h | h | h | h | h | h | h | h <;> subst h
 ·exact CO w
 ·exact CM w
 ·exact CL w
 ·exact CJ w
 ·exact CH w
 ·exact CG w
 ·exact CF w
 ·exact CD w
 ·exact CB w
 ·exact AQ w
 ·exact AP w
 ·exact AO w
 ·exact AK w
 ·exact AJ w
theorem F9:∃d,Tryz.prog.underlying 93=some d/\d.isRow=true:=⟨_,underlying93,rfl⟩
theorem AH (w:au):Calls prog 46 #[] w λe w' =>e= .returned (.agg dL)/\ae w w' []:=by
 obtain⟨X,hX⟩:∃X:Array Value,X=dL:=⟨_,rfl⟩;rw[<-hX];have HX:=zh hX;clear hX
 go_enter func46,ntmps46
 go_wp2_with (refine aQ rfl (.tmp 0) (.tmp 1) rfl dL #[.string ⟨#[]⟩,.string ⟨#[]⟩,.string ⟨#[]⟩,.string ⟨#[]⟩,.string ⟨#[]⟩,.string ⟨#[]⟩,.string ⟨#[]⟩,.string ⟨#[]⟩,.string ⟨#[]⟩,.string ⟨#[]⟩,.string ⟨#[]⟩,.string ⟨#[]⟩,.string ⟨#[]⟩,.string ⟨#[]⟩,.string ⟨#[]⟩] w rfl (by kernel_rfl) rfl (by simp[Value.oneCell']) rfl rfl ?_;intro w5 iy)
 refine zh ?_;have q9:Row w5 w.heap.size 93 X:=by rw[<-iy,HX.o];exact Row.new _ _ _
 have k9:ae w w5 []:=by rw[<-iy];exact ae.alloc _ _
 have H9:=zh (And.intro q9 k9);clear k9 q9 iy
 go_wp2_with fail
 obtain⟨d,hu,hd⟩:=F9;exact bD (aW (s:=0) (cs:=X.toList) rfl rfl (aD H9.o.1) hu hd (by rw[HX.o];kernel_rfl)) rfl ⟨rfl,H9.o.2⟩
def uJ (k:Int):Int:=if 1<=k/\k<=14 then 0 else 2
theorem Cy (k:Int)(w:au):Calls prog 19 #[.int .i64 k] w λe w' =>e= .returned (.tuple #[.string ⟨(gG k).toArray⟩,.int .i64 (uJ k)])/\ae w w' []:=by
 by_cases hk:1<=k/\k<=14
 ·have e2:uJ k=0:=aE hk
  have h1:decide (k < 1)=false:=by simp;omega
  have h2:decide (k > 14)=false:=by simp;omega
  have hi:=λw=>Fc hk w
  obtain⟨T,hT⟩:∃T:Array UInt8,(gG k).toArray=T:=⟨_,rfl⟩;rw[e2,hT];rw[hT]at hi;clear hT e2 hk;obtain⟨A,hA⟩:∃A,dL=A:=⟨_,rfl⟩;have HN:=zh (λw=>AH w);rw[hA]at hi HN;clear hA
  go_enter func19,ntmps19
  go_wp2_with fail
  refine(HN.o _).mono ?_;rintro e w' ⟨rfl,hk'⟩;have HK:=zh hk';clear hk';have hi' :=hi w'
  go_wp2_with fail
  refine bD (v:= .tuple #[.string ⟨T⟩,.int .i64 0]) (by simp[results,results19,go_sem]) rfl ⟨rfl,HK.o⟩
 ·have e1:gG k= []:=aj hk
  have e2:uJ k=2:=aj hk;rw[e1,e2];clear e1 e2
  by_cases h1:k < 1
  ·have b1:decide (k < 1)=true:=by simpa using h1
   clear hk h1
   go_enter func19,ntmps19
   go_wp2_with fail
   refine bD (v:= .tuple #[.string ⟨#[]⟩,.int .i64 2]) (by simp[results,results19,go_sem]) rfl ⟨rfl,ae.refl _ _⟩
  ·have b1:decide (k < 1)=false:=by simpa using h1
   have b2:decide (k > 14)=true:=by simp;omega
   clear hk h1
   go_enter func19,ntmps19
   go_wp2_with fail
   refine bD (v:= .tuple #[.string ⟨#[]⟩,.int .i64 2]) (by simp[results,results19,go_sem]) rfl ⟨rfl,ae.refl _ _⟩

structure wB (p:Pk):Prop where
 a:p.t.length+p.c.length+p.u.length<=3000
 b:p.b.length<=3000
 pw:p.pw.length<=3000
 wt:p.wt.length<=3000
 wb:p.wb.length<=3000
 lw:p.wants.length<=20
 lc:p.aF.length<=20
 lf:p.fs.length<=20
 ws:∀w∈p.wants,w.1.length<=300
 fs:∀f∈p.fs,f.length<=300
/-- What few answers. -/
def Kt (w:au)(p:Pk)(e:Ending)(w' :au):Prop:=ae w w' []/\(wB p/\e= .returned (.bool true)\/¬wB p/\e= .returned (.bool false))
end Go.Proofs.YtahbikfbjenfpaaGreatDoor
