/- Packages of packets, plain: what the statements say of their bytes. The law PacketApart. What Parse tells of a packet's own bytes. The law PacketLists. -/
import Derived.Test.YtahbikfbjenfpaaGreatDoorPa13
import Derived.Test.YtahbikfbjenfpaaGreatDoorPa40
import Derived.Test.YtahbikfbjenfpaaGreatDoorPa26

namespace Go.Proofs.YtahbikfbjenfpaaGreatDoor
open Go

/-- Dup and Retain turned. -/
def pkTurn (p:Pk):Pk:={p with dup:= !p.dup,ret:= !p.ret}
/-- How many bytes differ. -/
def diffs:List UInt8→List UInt8→Nat
 | x::l,y::m=>(if x=y then 0 else 1)+diffs l m
 | _,_=>0
/-- With another ID. -/
def pkId2 (p:Pk)(n:Int):Pk:={p with id:=n}
/-- The lists of two, one behind the other. -/
def pkJoin (p q:Pk):Pk:={p with wants:=p.wants++q.wants,codes:=p.codes++q.codes,fs:=p.fs++q.fs}
def pkMuch (p:Pk):Nat:=p.wants.length+p.codes.length+p.fs.length
end Go.Proofs.YtahbikfbjenfpaaGreatDoor

namespace Go.Proofs.YtahbikfbjenfpaaGreatDoor
open Go.RowKit Go.Shelf

/-- A whole struct is read out of its box. -/
theorem wpList_loadX {P:Program}{Q:Exit→Act→World→Prop}{ops:Array Oper}{op:Oper}{rest:List Oper}{a:Act}{w:World}{ty:TypeId}{x:Operand}{b:Nat}{X:Array Value}{d:TypeDesc}(hw:Region.wanted op (yielded ops a.tmps)=true)(ho:op.op= .load ty x)
  (hx:a.eval x= .pointer (some ⟨b,0,none⟩)) (hr:Row w b ty X) (hu:P.underlying ty=some d) (hd:d.isRow=true) (hi:(P.info? ty).map (·.size)=some X.size)
  (h:wpList P ops Q rest (a.put op.dst (.agg X)) w):wpList P ops Q (op::rest) a w:=
 wpList_loadg hw ty x ho b 0 hx X.toList d (range_row hr) hu hd (by rw[Array.length_toList];exact hi) h
/-- What a packet does in few and in Raw. -/
structure PkA (w:World)(p:Pk)(X:Array Value):Prop where
 sz:(Tryz.prog.info? 29).map (·.size)=some X.size
 few:∀W,Keeps w W []→Calls Tryz.prog 9 #[.agg X] W (FewPost W p)
 raw:∀W,Keeps w W []→PkFewP p→Calls Tryz.prog 11 #[.agg X] W (RawPost W p)
set_option maxRecDepth 100000 in
theorem PkA.of {w:World}{p:Pk}{sw sc sf:Value}(hm:MaxL w)(hl:PkL w p sw sc sf)(hk1: -9223372036854775808≤p.k)(hk2:p.k≤9223372036854775807)(hb:p.t.length+p.c.length+p.u.length≤9223372036854775807){X:Array Value}(hX:Value.agg X=pkV p sw sc sf):PkA w p X:=by
 refine⟨?_,fun W hk=> ?_,fun W hk hf=> ?_⟩
 ·injection hX with hX
  rw[hX]
  kernel_rfl
 ·rw[hX]
  exact pkFew_any p sw sc sf W (hl.keeps hk) hb
 ·rw[hX]
  exact pkRaw_any p sw sc sf W (hl.keeps hk) hf.sm (hm.keeps hk) hk1 hk2
/-- What is known of two boxes. -/
structure TwoSt (w W:World)(a b:Nat)(X Y:Array Value):Prop where
 k:Keeps w W []
 r1:Row W a 29 X
 r2:Row W b 29 Y

/-- A packet as one value, its cells hidden. -/
structure PkCells (R:Array Value)(p:Pk)(sw sc sf:Value):Prop where
 v:Value.agg R=pkV p sw sc sf
 z:24=R.size
 one:R.all (·.oneCell')=true
 sz:(Tryz.prog.info? 29).map (·.size)=some R.size
set_option maxRecDepth 100000 in
theorem PkCells.of {w:World}{p:Pk}{sw sc sf:Value}(h:PkL w p sw sc sf):∃R,PkCells R p sw sc sf:=by
 obtain⟨A1,d1,A2,d2,A3,d3,rfl,rfl,rfl⟩:=h.slices;exact⟨_,rfl,rfl,by simp[Value.oneCell'],by kernel_rfl⟩
theorem pkRaw_le {p:Pk}(h:pkOk p=true):(pkRaw p).length≤10000:=by
 unfold pkRaw;rw[List.length_cons,List.length_append,lnRaw_length];have:=lnSize_le (pkBody p).length;have:=pkBody_len h;omega
theorem parse_back (w:World)(base:Nat)(v:Value)(p:Pk)(hm:MaxL w)(hp:pkOk p=true)(hv:Owned w base v (pkRaw p)):
  Calls Tryz.prog 14 #[v] w fun e w' =>Keeps w w' []∧∃R sw sc sf,e= .returned (.tuple #[.agg R,.int .i64 0])∧PkCells R p sw sc sf∧PkT w' p sw sc sf:=by
 have hl:=pkRaw_le hp;refine(pkParse_any w v (pkRaw p) hm (by omega) (hv.bytes (by omega))).mono ?_;rintro e w' ⟨hk,⟨r,sw,sc,sf,h1,rfl,h2⟩ | ⟨h1,_⟩⟩
 ·obtain rfl:r=p:=pk_unique h1.1 hp h1.2
  obtain⟨R,hR⟩:=PkCells.of h2.g;exact⟨hk,R,sw,sc,sf,by rw[hR.v],hR,h2⟩
 ·exact absurd ⟨hp,rfl⟩ (h1 p)

/-- What the statement asks of two packets. -/
structure ListsIn (w:World)(p q:Pk)(X Y:Array Value):Prop where
 m:MaxL w
 a1:PkA w p X
 a2:PkA w q Y
 k1:X[0]? =some (.int .i64 p.k)
 k2:Y[0]? =some (.int .i64 q.k)
 ch1:∀W,Keeps w W []→PkFewP p→Calls Tryz.prog 13 #[.agg X] W fun e W' =>e= .returned (.int .i64 (chkV p))∧Keeps W W' []
 ch2:∀W,Keeps w W []→PkFewP q→Calls Tryz.prog 13 #[.agg Y] W fun e W' =>e= .returned (.int .i64 (chkV q))∧Keeps W W' []
 z:24=X.size
 one:X.all (·.oneCell')=true
abbrev joinV (X:Array Value)(v1 v2 v3:Value):Array Value:=((X.setIfInBounds 21 v1).setIfInBounds 22 v2).setIfInBounds 23 v3
/-- What the joined packet does. -/
structure JoinDoes (w:World)(o:Pk)(X:Array Value):Prop where
 raw:∀W v1 v2 v3,Keeps w W []→PkSm o→PkL W o v1 v2 v3→Calls Tryz.prog 11 #[.agg (joinV X v1 v2 v3)] W (RawPost W o)
 same:∀W R sw sc sf v1 v2 v3,PkSm o→PkCells R o sw sc sf→PkL W o sw sc sf→PkL W o v1 v2 v3→Calls Tryz.prog 17 #[.agg R,.agg (joinV X v1 v2 v3)] W (TruePost W true)
 sz:∀v1 v2 v3,(Tryz.prog.info? 29).map (·.size)=some (joinV X v1 v2 v3).size
end Go.Proofs.YtahbikfbjenfpaaGreatDoor
