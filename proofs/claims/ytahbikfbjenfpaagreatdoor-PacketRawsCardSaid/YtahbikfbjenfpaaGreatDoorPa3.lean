/- Bytes as a string; bytes held against each other. Bytes made by make. Package packet: packets as values; lists held against each other. A whole row is read, in a drawn region. -/
import Derived.Test.YtahbikfbjenfpaaGreatDoorPa2
import Derived.Laws.BytesArg
import Derived.Laws.Cells
import Derived.Laws.MakeOwn
import Derived.Lib.ConvBytes
import Derived.Lib.Strings
import Derived.Test.YtahbikfbjenfpaaGreatDoorPa1
import Derived.Test.YtahbikfbjenfpaaGreatDoorPa0
import Derived.Deep.MidRow
import Derived.Laws.StructEq

namespace Go.Proofs.YtahbikfbjenfpaaGreatDoor
open Go.RowKit

/-- Bytes as a string's value. -/
def strV (l:List UInt8):Value:= .string ⟨l.toArray⟩
theorem undString:Tryz.prog.underlying 9=some .string:=by kernel_rfl
theorem undByte:Tryz.prog.underlying 5=some (.int .u8):=by kernel_rfl

set_option maxRecDepth 100000 in
theorem conv_str (w:World)(B:Nat)(A:Option Addr)(c:Nat)(l:List UInt8)(h:Lies w B A (l.map byteV)):
  (convert 32 9 (.slice A l.length c)).run Tryz.prog w= .ok (.string ⟨l.toArray⟩) w:=by
 rcases A with _ | ad
 ·have hl:l= []:=by
   rcases l with _ | ⟨x,l⟩
   ·rfl
   ·obtain⟨b,o,e,_⟩:=h (by simp)
    cases e
  subst hl;exact run_convert_bytes_nil w _ _ undBytes undByte _ _ _ undString
 ·by_cases hl:l= []
  ·subst hl
   simp only[List.length_nil];rw[run_convert_bytes_string w _ _ _ _ _ _ undBytes undByte undString];rw[run_bytesToString w ad 0 c [] (by simpa using run_loadCells_list (P:=Tryz.prog) w ad [] (fun j v hj=>by simp at hj))];rfl
  ·obtain⟨b,o,e,_,hc⟩:=h (by simpa using List.length_pos_iff.2 hl)
   injection e with e
   subst e;have:=run_convert_bytes_arg (P:=Tryz.prog) w 32 5 undBytes undByte b o l.length c (l.map fun b=>(b.toNat:Int)) (by simp)
    (fun i hi=>by
     rw[hc i (.int .u8 ((l[i]).toNat:Int)) (by simp[hi,byteV])];simp[List.getD,hi]) _ undString
   rw[this]
   congr 3
   unfold strOfNums
   congr 1
   rw[List.map_map]
   congr 1
   refine(List.map_congr_left (g:=id) ?_).trans (List.map_id _);intro y _;simp

section
variable (w:World)
/-- append of bytes onto bytes of the call's own. -/
theorem run_append_bytes (base:Nat)(v u:Value)(l1 l2:List UInt8)(ty:TypeId)(hown:Owned w base v l1)(hb:Bytes w w.heap.size u l2)(hlen:l1.length+l2.length≤140737488355328)(hbase:base≤w.heap.size):
  ∃A c w',(Builtin.append_ #[32,32] ty #[v,u]).run Tryz.prog w= .ok (.slice A (l1++l2).length c) w' ∧Owned w' base (.slice A (l1++l2).length c) (l1++l2)∧Keeps w w' v.ownBlock.toList∧
   ((Value.slice A (l1++l2).length c).ownBlock=v.ownBlock∨(Value.slice A (l1++l2).length c).ownBlock=some w.heap.size):=by
 obtain⟨i0,hi,hz0,hz1,hz2⟩:=info_parts infoByte;obtain⟨A,c,rfl,hc,hnil,hcm,hl2,hL⟩:=hb;obtain⟨v',w',hrun,h2,h3,h4⟩:=run_append_lies' (P:=Tryz.prog) w base 32 ty 5 i0 (.int .u8 0) 1 undBytes hi hz0 hz1 hz2 rfl v l1.length (l1.map byteV) hown w.heap.size A l2.length c (l2.map byteV) (by simp) hL (byteV_one l2) (by simp[maxLen];omega) (by omega) hbase;have h5:(l1++l2).length=l1.length+l2.length:=List.length_append;have h6:Owned w' base v' (l1++l2):=by unfold Owned;rw[h5,List.map_append];exact h2
 obtain⟨A',c',rfl,_,_⟩:=own_slice h6;exact⟨A',c',w',hrun,h6,Keeps.of_grown h3,h4⟩

theorem wpList_append_bytes {ops:Array Oper}{rest:List Oper}{o:Oper}{a:Act}{Q:Exit→Act→World→Prop}(hgd:o.guard=none)(s x:Operand)
  (ho:o.op= .call {callee:= .builtin .append,args:= #[s,x],argTypes:= #[32,32]})
  (base:Nat) (v u:Value) (l1 l2:List UInt8) (hs:a.eval s=v) (hx:a.eval x=u) (hown:Owned w base v l1) (hb:Bytes w w.heap.size u l2) (hlen:l1.length+l2.length≤140737488355328) (hbase:base≤w.heap.size)
  (h:∀A c w' l,Hid (l=l1++l2)→(l.length≤l1.length+l2.length∧l1.length+l2.length≤l.length)→Owned w' base (.slice A l.length c) l→Keeps w w' v.ownBlock.toList→((Value.slice A l.length c).ownBlock=v.ownBlock∨(Value.slice A l.length c).ownBlock=some w.heap.size)→
   wpList Tryz.prog ops Q rest (a.put o.dst (.slice A l.length c)) w'):wpList Tryz.prog ops Q (o::rest) a w:=by
 refine wpList_plain hgd fun K hK=> ?_
 obtain⟨A,c,w',hrun,h2,h3,h4⟩:=run_append_bytes w base v u l1 l2 o.type hown hb hlen hbase;unfold Oper.wp execOp;simp only[ho,resolve,invoke,builtin,Sem.run_bind,Sem.run_pure,Result.andThen_ok,List.map_toArray,List.map_cons,List.map_nil,hs,hx,hrun];exact hK _ _ (h A c w' _ (zh rfl) ⟨by simp,by simp⟩ h2 h3 h4)

end

/-- Bytes as cells. -/
def byC (l:List UInt8):Array Value:=(l.map byteV).toArray
theorem byC_set (l:List UInt8)(i:Nat)(x:UInt8):(byC l).setIfInBounds i (byteV x)=byC (l.set i x):=by
 simp[byC,List.map_set]
theorem byC_get (l:List UInt8){i:Nat}(h:i < l.length):(byC l)[i]? =some (byteV l[i]):=by
 unfold byC;rw[zga,List.getElem?_map,List.getElem?_eq_getElem h];rfl
theorem made_by (n:Nat):madeCells (Value.int .u8 0).cells n=byC (List.replicate n 0):=by
 unfold madeCells byC;refine Array.ext (by simp) fun i h1 h2=> ?_
 simp[byteV,Value.cells,Nat.mod_one]
theorem mk_by (w:World)(n:Nat)(hn:n≤1000000):(Instr.makeSlice 32 (.int .i64 (n:Int)) (.int .i64 (n:Int))).run Tryz.prog w= .ok (.slice (some ⟨w.heap.size,0,none⟩) n n) (w.alloc (.cells (byC (List.replicate n 0)) 5)):=by
 obtain⟨i0,hi,hz0,hz1,hz2⟩:=info_parts infoByte;have:=run_makeSlice (P:=Tryz.prog) w 32 5 i0 (.int .u8 0) undBytes hi hz0 .i64 .i64 n n (by omega) (Int.le_refl _) (by rw[hz1];omega) (by rw[hz2];omega) (by omega);rw[hz1,Nat.mul_one,Int.toNat_natCast,made_by]at this;exact this
theorem lies_by {w:World}{b:Nat}{l:List UInt8}(h:Row w b 5 (byC l)):Lies w w.heap.size (some ⟨b,0,none⟩) (l.map byteV):=fun _=>by
 refine⟨b,0,rfl,h.lt,fun i u hu=> ?_⟩;rw[Nat.zero_add,h.cell,←hu];unfold byC;rw[zga]
theorem str_cut (l:List UInt8)(a e:Nat):(⟨l.toArray⟩:ByteArray).extract a e=⟨((l.drop a).take (e - a)).toArray⟩:=by
 apply ByteArray.ext;rw[ByteArray.data_extract];apply Array.ext';simp
theorem str_get {s:List UInt8}{S:ByteArray}(hS:(⟨s.toArray⟩:ByteArray)=S){i:Nat}(hi:i < s.length)(h:i < S.size):S[i]'h=s[i]:=by
 subst hS;rfl
/-- A text as bytes: a new block. -/
theorem conv_by (w:World)(l:List UInt8):∃cap w',(convert 9 32 (.string ⟨l.toArray⟩)).run Tryz.prog w= .ok (.slice (some ⟨w.heap.size,0,none⟩) l.length cap) w' ∧Keeps w w' []∧∀(j:Nat) (h:j < l.length),w'.cell? ⟨w.heap.size,j,none⟩=some (byteV l[j])∧w.heap.size < w'.heap.size:=by
 refine⟨_,_,Lib.run_convert_string_bytes w _ _ _ ⟨l.toArray⟩ undString undBytes undByte,⟨rfl,rfl,rfl,by rw[Lib.bytesWorld_size];omega,fun k hk _=>Lib.bytesWorld_at_old w _ _ k hk⟩,fun j h=>⟨?_,by rw[Lib.bytesWorld_size];omega⟩⟩;rw[Lib.bytesWorld_cell w 5 ⟨l.toArray⟩ j (show j < l.length from h)];simp[byteV,List.getD_eq_getElem?_getD,List.getElem?_eq_getElem h]
def TruePost (w:World)(B:Bool)(e:Ending)(w' :World):Prop:=e= .returned (.bool B)∧Keeps w w' []

def wantC (x:List UInt8×Int):List Value:= [.string ⟨x.1.toArray⟩,.int .i64 x.2]
def intC (x:Int):List Value:= [.int .i64 x]
theorem encWant:Enc 2 wantC:=⟨by omega,fun _=>rfl,fun p u hu=>by
 simp only[wantC,List.mem_cons,List.not_mem_nil,or_false]at hu
 rcases hu with rfl | rfl <;> rfl⟩
theorem encIntC:Enc 1 intC:=⟨by omega,fun _=>rfl,fun p u hu=>by obtain rfl:=List.mem_singleton.1 hu;rfl⟩
/-- A packet's cells. -/
def pkCells (p:Pk)(sw sc sf:Value):List Value:=(zL p.k p.dup p.ret p.q p.t p.b p.id p.c p.cl p.keep p.hw p.wt p.wb p.wq p.wr p.hu p.hp p.u p.pw p.pr p.code sw sc sf)
abbrev pkV (p:Pk)(sw sc sf:Value):Value:= .agg (zP p.k p.dup p.ret p.q p.t p.b p.id p.c p.cl p.keep p.hw p.wt p.wb p.wq p.wr p.hu p.hp p.u p.pw p.pr p.code sw sc sf)
/-- A block of cells, of whatever type. -/
def Blk (w:World)(b:Nat)(cs:Array Value):Prop:=∃t fr,w.heap[b]? =some (.cells cs t fr)
theorem Blk.lt {w:World}{b:Nat}{cs:Array Value}(h:Blk w b cs):b < w.heap.size:=by
 obtain⟨t,fr,h⟩:=h
 rcases Nat.lt_or_ge b w.heap.size with hlt | hge
 ·exact hlt
 ·rw[Array.getElem?_eq_none hge]at h;cases h
theorem Blk.keeps {w w' :World}{b:Nat}{cs:Array Value}(h:Blk w b cs)(hk:Keeps w w' []):Blk w' b cs:=by
 have hb:=h.lt;obtain⟨t,fr,h⟩:=h;exact⟨t,fr,(hk.block b hb (by simp)).trans h⟩
theorem Blk.cell {w:World}{b:Nat}{cs:Array Value}(h:Blk w b cs)(i:Nat):w.cell? ⟨b,i,none⟩=cs[i]? :=by
 obtain⟨t,fr,h⟩:=h;exact cell_of_row w b i cs t fr h
theorem Row.blk {w:World}{b:Nat}{t:TypeId}{cs:Array Value}(h:Row w b t cs):Blk w b cs:=⟨t,_,h⟩
/-- A list that may only be read. -/
def ListG {α:Type}(w:World)(k:Nat)(f:α→List Value)(A:Option Addr)(l:List α):Prop:=
 0 < l.length→∃b o cs,A=some ⟨b,o,none⟩∧Blk w b cs∧∀i (h:i < l.length) j,j < k→cs[o+i*k+j]? =(f l[i])[j]?
section
variable {α:Type} {w w' :World} {k:Nat} {f:α→List Value} {A:Option Addr} {l:List α}
theorem ListAt.g {e:TypeId}(h:ListAt w e k f A l):ListG w k f A l:=fun hp=>by
 obtain⟨b,o,cs,ea,hr,hc⟩:=h hp;exact⟨b,o,cs,ea,hr.blk,hc⟩
theorem ListG.keeps (h:ListG w k f A l)(hk:Keeps w w' []):ListG w' k f A l:=fun hp=>by
 obtain⟨b,o,cs,ea,hr,hc⟩:=h hp;exact⟨b,o,cs,ea,hr.keeps hk,hc⟩
theorem ListG.nil (w:World)(k:Nat)(f:α→List Value)(A:Option Addr):ListG w k f A []:=fun h=>absurd h (by simp)
theorem ListG.at_ (h:ListG w k f A l){i:Nat}(hi:i < l.length):∃b o,A=some ⟨b,o,none⟩∧b < w.heap.size∧∀j,j < k→w.cell? ⟨b,o+i*k+j,none⟩=(f l[i])[j]? :=by
 obtain⟨b,o,cs,ea,hr,hc⟩:=h (by omega);exact⟨b,o,ea,hr.lt,fun j hj=>(hr.cell _).trans (hc i hi j hj)⟩
end
/-- A packet's lists lie there. -/
structure PkL (w:World)(p:Pk)(sw sc sf:Value):Prop where
 lw:∃A c,sw= .slice A p.wants.length c∧ListG w 2 wantC A p.wants
 lc:∃A c,sc= .slice A p.codes.length c∧ListG w 1 intC A p.codes
 lf:∃A c,sf= .slice A p.fs.length c∧ListG w 1 txtV A p.fs
/-- A packet's lists lie there, each in a block of its elements. -/
structure PkT (w:World)(p:Pk)(sw sc sf:Value):Prop where
 lw:∃A c,sw= .slice A p.wants.length c∧ListAt w 50 2 wantC A p.wants
 lc:∃A c,sc= .slice A p.codes.length c∧ListAt w 3 1 intC A p.codes
 lf:∃A c,sf= .slice A p.fs.length c∧ListAt w 9 1 txtV A p.fs
theorem PkT.g {w:World}{p:Pk}{sw sc sf:Value}(h:PkT w p sw sc sf):PkL w p sw sc sf:=by
 obtain⟨⟨A,a,e1,h1⟩,⟨B,b,e2,h2⟩,⟨C,c,e3,h3⟩⟩:=h;exact⟨⟨A,a,e1,h1.g⟩,⟨B,b,e2,h2.g⟩,⟨C,c,e3,h3.g⟩⟩
theorem PkT.keeps {w w' :World}{p:Pk}{sw sc sf:Value}(h:PkT w p sw sc sf)(hk:Keeps w w' []):PkT w' p sw sc sf:=by
 obtain⟨⟨A,a,e1,h1⟩,⟨B,b,e2,h2⟩,⟨C,c,e3,h3⟩⟩:=h;exact⟨⟨A,a,e1,h1.keeps hk⟩,⟨B,b,e2,h2.keeps hk⟩,⟨C,c,e3,h3.keeps hk⟩⟩
theorem PkT.slices {w:World}{p:Pk}{sw sc sf:Value}(h:PkT w p sw sc sf):∃A1 c1 A2 c2 A3 c3,sw= .slice A1 p.wants.length c1∧sc= .slice A2 p.codes.length c2∧sf= .slice A3 p.fs.length c3:=by
 obtain⟨A,a,rfl,_⟩:=h.lw;obtain⟨B,b,rfl,_⟩:=h.lc;obtain⟨C,c,rfl,_⟩:=h.lf;exact⟨A,a,B,b,C,c,rfl,rfl,rfl⟩
theorem PkT.empty {w:World}{p:Pk}(h1:p.wants= [])(h2:p.codes= [])(h3:p.fs= []):PkT w p (.slice none 0 0) (.slice none 0 0) (.slice none 0 0):=
 ⟨⟨none,0,by rw[h1];rfl,by rw[h1];exact ListAt.nil _ _ _ _ _⟩,⟨none,0,by rw[h2];rfl,by rw[h2];exact ListAt.nil _ _ _ _ _⟩,⟨none,0,by rw[h3];rfl,by rw[h3];exact ListAt.nil _ _ _ _ _⟩⟩
theorem PkL.keeps {w w' :World}{p:Pk}{sw sc sf:Value}(h:PkL w p sw sc sf)(hk:Keeps w w' []):PkL w' p sw sc sf:=by
 obtain⟨⟨A,a,e1,h1⟩,⟨B,b,e2,h2⟩,⟨C,c,e3,h3⟩⟩:=h;exact⟨⟨A,a,e1,h1.keeps hk⟩,⟨B,b,e2,h2.keeps hk⟩,⟨C,c,e3,h3.keeps hk⟩⟩
theorem take_same {α:Type}{l m:List α}{k:Nat}(hl:k < l.length)(hm:k < m.length)(h:l.take k=m.take k)(he:l[k]=m[k]):l.take (k+1)=m.take (k+1):=by
 rw[List.take_succ_eq_append_getElem hl,List.take_succ_eq_append_getElem hm,h,he]
set_option maxRecDepth 100000 in
set_option maxHeartbeats 2000000 in
theorem eqInts_any (w:World)(A B:Option Addr)(c d:Nat)(l m:List Int)(h1:ListG w 1 intC A l)(h2:ListG w 1 intC B m)(hle:l.length≤1000000):
  Calls Tryz.prog 38 #[.slice A l.length c,.slice B m.length d] w (TruePost w (decide (l=m))):=by
 have HH:=zh (And.intro h1 h2);clear h1 h2
 by_cases hlm:(l.length:Int)=(m.length:Int)
 ·have hlb:((l.length:Int) !=(m.length:Int))=false:=by simpa using hlm
  have HLM:=zh (show l.length=m.length by omega);clear hlm
  go_enter Tryz.func38,Tryz.ntmps38
  go_wp2_with fail
  go_loopw [13] (fun i wr=>∃j:Nat,j≤l.length∧i= .int .i64 j∧Hid (l.take j=m.take j∧Keeps w wr [])) (fun i _=>l.length - (intOf i).toNat)
  case atStart=>exact⟨0,by omega,rfl,zh ⟨rfl,Keeps.refl _ _⟩⟩
  case round=>
   obtain⟨j,hj,rfl,HR⟩:=hrel
   by_cases hjl:j < l.length
   ·have hjm:j < m.length:=by have:=HLM.out;omega
    have hjm2:(j:Int) < (m.length:Int):=by omega
    obtain⟨b1,o1,cs1,rfl,hr1,hc1⟩:=HH.out.1 (by omega);obtain⟨b2,o2,cs2,rfl,hr2,hc2⟩:=HH.out.2 (by omega);have HS:=zh (fun h=>take_same hjl hjm HR.out.1 h);have HNE:=zh (show l[j]≠m[j]→l≠m from fun h e=>h (by subst e;rfl));have hc1:=hc1 j hjl;have hc2:=hc2 j hjm
    generalize l[j]=x at*
    generalize m[j]=y at*
    skip
    have M1:=fun(W' :World) (hW:Keeps wr W' [])=>((hr1.keeps (HR.out.2.then_ hW)).cell (o1+j*1+0)).trans (hc1 0 (by omega))
    have M2:=fun(W' :World) (hW:Keeps wr W' [])=>((hr2.keeps (HR.out.2.then_ hW)).cell (o2+j*1+0)).trans (hc2 0 (by omega))
    have N1:=fun(W' :World) (_:Keeps wr W' [])=>True.intro
    have N2:=fun(W' :World) (_:Keeps wr W' [])=>True.intro
    simp only[intC,zgz,Nat.mul_one,Nat.add_zero]at M1 M2;clear hc1 hc2 hr1 hr2
    by_cases hxy:x=y
    ·subst hxy
     go_wp2_with fail
     refine wp_region_keeps _ (by kernel_rfl) rfl (by kernel_rfl) ?_
     iterate 3
      refine ls ?_;simp only[addEnt]
     apply loose_is
     ·intro W vals hW hkn
      simp only[knows]at hkn
      try simp only[and_true]at hkn
      clear hkn;have m0:=M1 W hW;have m1:=N1 W hW;refine⟨?_⟩;simp only[fill];go_simp
      first | exact⟨Keeps.refl _ _,rfl⟩ | exact⟨Keeps.alloc _ _,rfl⟩
     iterate 3
      simp only[addEnt];refine ls ?_
     simp only[addEnt];apply loose_is
     ·intro W vals hW hkn
      simp only[knows]at hkn
      try simp only[and_true]at hkn
      clear hkn;have m0:=M2 W hW;have m1:=N2 W hW;refine⟨?_⟩;simp only[fill];go_simp
      first | exact⟨Keeps.refl _ _,rfl⟩ | exact⟨Keeps.alloc _ _,rfl⟩
     simp only[addEnt];refine ls ?_;simp only[addEnt];refine loose_nil (fun W vals hW hkn=> ?_);simp only[knowsAll]at hkn
     try simp only[and_true]at hkn
     simp only[fill,Act.put,zsa,zsc,zsz];clear hkn M1 M2 N1 N2;have HK:=zh (HR.out.2.then_ hW)
     go_wp2_with fail
     exact⟨⟨j+1,by omega,by go_num,zh ⟨HS.out (by first | rfl | trivial),HK.out⟩⟩,by simp[intOf];omega⟩
    ·have hq:(x !=y)=true:=by simpa using hxy
     have hq2:(x==y)=false:=by simpa using hxy
     have HD:=zh (show decide (l=m)=false from decide_eq_false (HNE.out hxy))
     go_wp2_with fail
     refine wp_region_keeps _ (by kernel_rfl) rfl (by kernel_rfl) ?_
     iterate 3
      refine ls ?_;simp only[addEnt]
     apply loose_is
     ·intro W vals hW hkn
      simp only[knows]at hkn
      try simp only[and_true]at hkn
      clear hkn;have m0:=M1 W hW;have m1:=N1 W hW;refine⟨?_⟩;simp only[fill];go_simp
      first | exact⟨Keeps.refl _ _,rfl⟩ | exact⟨Keeps.alloc _ _,rfl⟩
     iterate 3
      simp only[addEnt];refine ls ?_
     simp only[addEnt];apply loose_is
     ·intro W vals hW hkn
      simp only[knows]at hkn
      try simp only[and_true]at hkn
      clear hkn;have m0:=M2 W hW;have m1:=N2 W hW;refine⟨?_⟩;simp only[fill];go_simp
      first | exact⟨Keeps.refl _ _,rfl⟩ | exact⟨Keeps.alloc _ _,rfl⟩
     simp only[addEnt];refine ls ?_;simp only[addEnt];refine loose_nil (fun W vals hW hkn=> ?_);simp only[knowsAll]at hkn
     try simp only[and_true]at hkn
     simp only[fill,Act.put,zsa,zsc,zsz];clear hkn M1 M2 N1 N2;have HK:=zh (HR.out.2.then_ hW)
     go_wp2_with fail
     go_ret;exact⟨by rw[HD.out];rfl,HK.out⟩
   ·obtain rfl:j=l.length:=by omega
    have HE:=zh (show l=m from by
     have:=HR.out.1;rw[List.take_length,HLM.out,List.take_length]at this;exact this)
    go_wp2_with fail
    go_ret;exact⟨by rw[decide_eq_true HE.out];rfl,HR.out.2⟩
 ·have hlb:((l.length:Int) !=(m.length:Int))=true:=by simpa using hlm
  have HE:=zh (show l≠m from fun e=>hlm (by rw[e]));clear hlm
  go_enter Tryz.func38,Tryz.ntmps38
  go_wp2_with fail
  go_ret;exact⟨by rw[decide_eq_false HE.out];rfl,Keeps.refl _ _⟩
set_option maxRecDepth 100000 in
set_option maxHeartbeats 2000000 in
theorem eqTexts_any (w:World)(A B:Option Addr)(c d:Nat)(l m:List (List UInt8))(h1:ListG w 1 txtV A l)(h2:ListG w 1 txtV B m)(hle:l.length≤1000000):
  Calls Tryz.prog 39 #[.slice A l.length c,.slice B m.length d] w (TruePost w (decide (l=m))):=by
 have HH:=zh (And.intro h1 h2);clear h1 h2
 by_cases hlm:(l.length:Int)=(m.length:Int)
 ·have hlb:((l.length:Int) !=(m.length:Int))=false:=by simpa using hlm
  have HLM:=zh (show l.length=m.length by omega);clear hlm
  go_enter Tryz.func39,Tryz.ntmps39
  go_wp2_with fail
  go_loopw [13] (fun i wr=>∃j:Nat,j≤l.length∧i= .int .i64 j∧Hid (l.take j=m.take j∧Keeps w wr [])) (fun i _=>l.length - (intOf i).toNat)
  case atStart=>exact⟨0,by omega,rfl,zh ⟨rfl,Keeps.refl _ _⟩⟩
  case round=>
   obtain⟨j,hj,rfl,HR⟩:=hrel
   by_cases hjl:j < l.length
   ·have hjm:j < m.length:=by have:=HLM.out;omega
    have hjm2:(j:Int) < (m.length:Int):=by omega
    obtain⟨b1,o1,cs1,rfl,hr1,hc1⟩:=HH.out.1 (by omega);obtain⟨b2,o2,cs2,rfl,hr2,hc2⟩:=HH.out.2 (by omega);have HS:=zh (fun h=>take_same hjl hjm HR.out.1 h);have HNE:=zh (show l[j]≠m[j]→l≠m from fun h e=>h (by subst e;rfl));have hc1:=hc1 j hjl;have hc2:=hc2 j hjm
    generalize l[j]=x at*
    generalize m[j]=y at*
    skip
    have M1:=fun(W' :World) (hW:Keeps wr W' [])=>((hr1.keeps (HR.out.2.then_ hW)).cell (o1+j*1+0)).trans (hc1 0 (by omega))
    have M2:=fun(W' :World) (hW:Keeps wr W' [])=>((hr2.keeps (HR.out.2.then_ hW)).cell (o2+j*1+0)).trans (hc2 0 (by omega))
    have N1:=fun(W' :World) (_:Keeps wr W' [])=>True.intro
    have N2:=fun(W' :World) (_:Keeps wr W' [])=>True.intro
    simp only[txtV,zgz,Nat.mul_one,Nat.add_zero]at M1 M2;clear hc1 hc2 hr1 hr2
    by_cases hxy:x=y
    ·subst hxy
     go_wp2_with fail
     refine wp_region_keeps _ (by kernel_rfl) rfl (by kernel_rfl) ?_
     iterate 3
      refine ls ?_;simp only[addEnt]
     apply loose_is
     ·intro W vals hW hkn
      simp only[knows]at hkn
      try simp only[and_true]at hkn
      clear hkn;have m0:=M1 W hW;have m1:=N1 W hW;refine⟨?_⟩;simp only[fill];go_simp
      first | exact⟨Keeps.refl _ _,rfl⟩ | exact⟨Keeps.alloc _ _,rfl⟩
     iterate 3
      simp only[addEnt];refine ls ?_
     simp only[addEnt];apply loose_is
     ·intro W vals hW hkn
      simp only[knows]at hkn
      try simp only[and_true]at hkn
      clear hkn;have m0:=M2 W hW;have m1:=N2 W hW;refine⟨?_⟩;simp only[fill];go_simp
      first | exact⟨Keeps.refl _ _,rfl⟩ | exact⟨Keeps.alloc _ _,rfl⟩
     simp only[addEnt];refine ls ?_;simp only[addEnt];refine loose_nil (fun W vals hW hkn=> ?_);simp only[knowsAll]at hkn
     try simp only[and_true]at hkn
     simp only[fill,Act.put,zsa,zsc,zsz];clear hkn M1 M2 N1 N2;have HK:=zh (HR.out.2.then_ hW)
     go_wp2_with fail
     exact⟨⟨j+1,by omega,by go_num,zh ⟨HS.out (by first | rfl | trivial),HK.out⟩⟩,by simp[intOf];omega⟩
    ·have hq:(x !=y)=true:=by simpa using hxy
     have hq2:(x==y)=false:=by simpa using hxy
     have HD:=zh (show decide (l=m)=false from decide_eq_false (HNE.out hxy))
     go_wp2_with fail
     refine wp_region_keeps _ (by kernel_rfl) rfl (by kernel_rfl) ?_
     iterate 3
      refine ls ?_;simp only[addEnt]
     apply loose_is
     ·intro W vals hW hkn
      simp only[knows]at hkn
      try simp only[and_true]at hkn
      clear hkn;have m0:=M1 W hW;have m1:=N1 W hW;refine⟨?_⟩;simp only[fill];go_simp
      first | exact⟨Keeps.refl _ _,rfl⟩ | exact⟨Keeps.alloc _ _,rfl⟩
     iterate 3
      simp only[addEnt];refine ls ?_
     simp only[addEnt];apply loose_is
     ·intro W vals hW hkn
      simp only[knows]at hkn
      try simp only[and_true]at hkn
      clear hkn;have m0:=M2 W hW;have m1:=N2 W hW;refine⟨?_⟩;simp only[fill];go_simp
      first | exact⟨Keeps.refl _ _,rfl⟩ | exact⟨Keeps.alloc _ _,rfl⟩
     simp only[addEnt];refine ls ?_;simp only[addEnt];refine loose_nil (fun W vals hW hkn=> ?_);simp only[knowsAll]at hkn
     try simp only[and_true]at hkn
     simp only[fill,Act.put,zsa,zsc,zsz];clear hkn M1 M2 N1 N2;have HK:=zh (HR.out.2.then_ hW)
     go_wp2_with fail
     go_ret;exact⟨by rw[HD.out];rfl,HK.out⟩
   ·obtain rfl:j=l.length:=by omega
    have HE:=zh (show l=m from by
     have:=HR.out.1;rw[List.take_length,HLM.out,List.take_length]at this;exact this)
    go_wp2_with fail
    go_ret;exact⟨by rw[decide_eq_true HE.out];rfl,HR.out.2⟩
 ·have hlb:((l.length:Int) !=(m.length:Int))=true:=by simpa using hlm
  have HE:=zh (show l≠m from fun e=>hlm (by rw[e]));clear hlm
  go_enter Tryz.func39,Tryz.ntmps39
  go_wp2_with fail
  go_ret;exact⟨by rw[decide_eq_false HE.out];rfl,Keeps.refl _ _⟩
set_option maxRecDepth 100000 in
set_option maxHeartbeats 2000000 in
theorem eqWants_any (w:World)(A B:Option Addr)(c d:Nat)(l m:List (List UInt8×Int))(h1:ListG w 2 wantC A l)(h2:ListG w 2 wantC B m)(hle:l.length≤1000000):
  Calls Tryz.prog 37 #[.slice A l.length c,.slice B m.length d] w (TruePost w (decide (l=m))):=by
 have HH:=zh (And.intro h1 h2);clear h1 h2
 by_cases hlm:(l.length:Int)=(m.length:Int)
 ·have hlb:((l.length:Int) !=(m.length:Int))=false:=by simpa using hlm
  have HLM:=zh (show l.length=m.length by omega);clear hlm
  go_enter Tryz.func37,Tryz.ntmps37
  go_wp2_with fail
  go_loopw [13] (fun i wr=>∃j:Nat,j≤l.length∧i= .int .i64 j∧Hid (l.take j=m.take j∧Keeps w wr [])) (fun i _=>l.length - (intOf i).toNat)
  case atStart=>exact⟨0,by omega,rfl,zh ⟨rfl,Keeps.refl _ _⟩⟩
  case round=>
   obtain⟨j,hj,rfl,HR⟩:=hrel
   by_cases hjl:j < l.length
   ·have hjm:j < m.length:=by have:=HLM.out;omega
    have hjm2:(j:Int) < (m.length:Int):=by omega
    obtain⟨b1,o1,cs1,rfl,hr1,hc1⟩:=HH.out.1 (by omega);obtain⟨b2,o2,cs2,rfl,hr2,hc2⟩:=HH.out.2 (by omega);have HS:=zh (fun h=>take_same hjl hjm HR.out.1 h);have HNE:=zh (show l[j]≠m[j]→l≠m from fun h e=>h (by subst e;rfl));have hc1:=hc1 j hjl;have hc2:=hc2 j hjm
    generalize l[j]=x at*
    generalize m[j]=y at*
    (obtain⟨x1,x2⟩:=x;obtain⟨y1,y2⟩:=y)
    have M1:=fun(W' :World) (hW:Keeps wr W' [])=>((hr1.keeps (HR.out.2.then_ hW)).cell (o1+j*2+0)).trans (hc1 0 (by omega))
    have M2:=fun(W' :World) (hW:Keeps wr W' [])=>((hr2.keeps (HR.out.2.then_ hW)).cell (o2+j*2+0)).trans (hc2 0 (by omega))
    have N1:=fun(W' :World) (hW:Keeps wr W' [])=>((hr1.keeps (HR.out.2.then_ hW)).cell (o1+j*2+1)).trans (hc1 1 (by omega))
    have N2:=fun(W' :World) (hW:Keeps wr W' [])=>((hr2.keeps (HR.out.2.then_ hW)).cell (o2+j*2+1)).trans (hc2 1 (by omega))
    simp only[wantC,zgz,zgs,Nat.add_zero]at M1 M2 N1 N2;clear hc1 hc2 hr1 hr2
    by_cases hxy:x1=y1
    ·subst hxy
     by_cases hxy:x2=y2
     ·subst hxy
      go_wp2_with fail
      refine wp_region_keeps _ (by kernel_rfl) rfl (by kernel_rfl) ?_
      iterate 3
       refine ls ?_;simp only[addEnt]
      apply loose_is
      ·intro W vals hW hkn
       simp only[knows]at hkn
       try simp only[and_true]at hkn
       clear hkn;have m0:=M1 W hW;have m1:=N1 W hW;refine⟨?_⟩;simp only[fill];go_simp
       first | exact⟨Keeps.refl _ _,rfl⟩ | exact⟨Keeps.alloc _ _,rfl⟩
      iterate 3
       simp only[addEnt];refine ls ?_
      simp only[addEnt];apply loose_is
      ·intro W vals hW hkn
       simp only[knows]at hkn
       try simp only[and_true]at hkn
       clear hkn;have m0:=M2 W hW;have m1:=N2 W hW;refine⟨?_⟩;simp only[fill];go_simp
       first | exact⟨Keeps.refl _ _,rfl⟩ | exact⟨Keeps.alloc _ _,rfl⟩
      simp only[addEnt];refine ls ?_;simp only[addEnt];refine loose_nil (fun W vals hW hkn=> ?_);simp only[knowsAll]at hkn
      try simp only[and_true]at hkn
      simp only[fill,Act.put,zsa,zsc,zsz];clear hkn M1 M2 N1 N2;have HK:=zh (HR.out.2.then_ hW)
      go_wp2_with fail
      exact⟨⟨j+1,by omega,by go_num,zh ⟨HS.out (by first | rfl | trivial),HK.out⟩⟩,by simp[intOf];omega⟩
     ·skip
      have HD:=zh (show decide (l=m)=false from decide_eq_false (HNE.out (fun e=>hxy (by injection e))))
      go_wp2_with fail
      refine wp_region_keeps _ (by kernel_rfl) rfl (by kernel_rfl) ?_
      iterate 3
       refine ls ?_;simp only[addEnt]
      apply loose_is
      ·intro W vals hW hkn
       simp only[knows]at hkn
       try simp only[and_true]at hkn
       clear hkn;have m0:=M1 W hW;have m1:=N1 W hW;refine⟨?_⟩;simp only[fill];go_simp
       first | exact⟨Keeps.refl _ _,rfl⟩ | exact⟨Keeps.alloc _ _,rfl⟩
      iterate 3
       simp only[addEnt];refine ls ?_
      simp only[addEnt];apply loose_is
      ·intro W vals hW hkn
       simp only[knows]at hkn
       try simp only[and_true]at hkn
       clear hkn;have m0:=M2 W hW;have m1:=N2 W hW;refine⟨?_⟩;simp only[fill];go_simp
       first | exact⟨Keeps.refl _ _,rfl⟩ | exact⟨Keeps.alloc _ _,rfl⟩
      simp only[addEnt];refine ls ?_;simp only[addEnt];refine loose_nil (fun W vals hW hkn=> ?_);simp only[knowsAll]at hkn
      try simp only[and_true]at hkn
      simp only[fill,Act.put,zsa,zsc,zsz];clear hkn M1 M2 N1 N2;have HK:=zh (HR.out.2.then_ hW)
      go_wp2_with fail
      go_ret;exact⟨by rw[HD.out];rfl,HK.out⟩
    ·skip
     have HD:=zh (show decide (l=m)=false from decide_eq_false (HNE.out (fun e=>hxy (by injection e))))
     go_wp2_with fail
     refine wp_region_keeps _ (by kernel_rfl) rfl (by kernel_rfl) ?_
     iterate 3
      refine ls ?_;simp only[addEnt]
     apply loose_is
     ·intro W vals hW hkn
      simp only[knows]at hkn
      try simp only[and_true]at hkn
      clear hkn;have m0:=M1 W hW;have m1:=N1 W hW;refine⟨?_⟩;simp only[fill];go_simp
      first | exact⟨Keeps.refl _ _,rfl⟩ | exact⟨Keeps.alloc _ _,rfl⟩
     iterate 3
      simp only[addEnt];refine ls ?_
     simp only[addEnt];apply loose_is
     ·intro W vals hW hkn
      simp only[knows]at hkn
      try simp only[and_true]at hkn
      clear hkn;have m0:=M2 W hW;have m1:=N2 W hW;refine⟨?_⟩;simp only[fill];go_simp
      first | exact⟨Keeps.refl _ _,rfl⟩ | exact⟨Keeps.alloc _ _,rfl⟩
     simp only[addEnt];refine ls ?_;simp only[addEnt];refine loose_nil (fun W vals hW hkn=> ?_);simp only[knowsAll]at hkn
     try simp only[and_true]at hkn
     simp only[fill,Act.put,zsa,zsc,zsz];clear hkn M1 M2 N1 N2;have HK:=zh (HR.out.2.then_ hW)
     go_wp2_with fail
     go_ret;exact⟨by rw[HD.out];rfl,HK.out⟩
   ·obtain rfl:j=l.length:=by omega
    have HE:=zh (show l=m from by
     have:=HR.out.1;rw[List.take_length,HLM.out,List.take_length]at this;exact this)
    go_wp2_with fail
    go_ret;exact⟨by rw[decide_eq_true HE.out];rfl,HR.out.2⟩
 ·have hlb:((l.length:Int) !=(m.length:Int))=true:=by simpa using hlm
  have HE:=zh (show l≠m from fun e=>hlm (by rw[e]));clear hlm
  go_enter Tryz.func37,Tryz.ntmps37
  go_wp2_with fail
  go_ret;exact⟨by rw[decide_eq_false HE.out];rfl,Keeps.refl _ _⟩

theorem opOk_load {P:Program}{R:World→World→Prop}{ops:Array Oper}{a:Act}{o:Oper}{φ:Value→World→Prop}{W:World}(hw:Region.wanted o (yielded ops a.tmps)=true){t:TypeId}{x:Operand}(ho:o.op= .load t x){g:Nat}{cs:List Value}{d:TypeDesc}(hx:a.eval x= .pointer (some ⟨g,0,none⟩))(hc:W.rangeAt g 0 cs)(hu:P.underlying t=some d)(hd:d.isRow=true)(hi:(P.info? t).map (·.size)=some cs.length)(hR:R W W)(hφ:φ (.agg cs.toArray) W):opOk P R ops a o φ W:=by
 refine⟨?_⟩;rw[if_pos hw];unfold execOp;simp only[ho,hx,Instr.loadAt,Instr.sureAddr,Sem.run_bind,Sem.run_pure,Result.andThen_ok,run_loadVar_mid W g 0 t cs d hc hu hd hi];exact⟨hR,hφ⟩
theorem opOk_eql {P:Program}{R:World→World→Prop}{ops:Array Oper}{a:Act}{o:Oper}{φ:Value→World→Prop}{W:World}(hw:Region.wanted o (yielded ops a.tmps)=true){t t' :TypeId}{x y:Operand}(ho:o.op= .binOp .eql t x y t'){X Y:Array Value}{r:Bool}(hx:a.eval x= .agg X)(hy:a.eval y= .agg Y)(hm:P.eqGuardType P.depth t=false)(h:∀W,(Op.equalIn 10000 t (.agg X) (.agg Y)).run P W= .ok r W)(hR:R W W)(hφ:φ (.bool r) W):opOk P R ops a o φ W:=by
 refine⟨?_⟩;rw[if_pos hw];unfold execOp;simp only[ho,hx,hy,Sem.run_bind,Sem.run_pure,Result.andThen_ok,run_eqGuard_agg _ _ _ _ _ _ _ hm,run_eql_struct,h];exact⟨hR,hφ⟩
theorem range_row {w:World}{g:Nat}{t:TypeId}{cs:Array Value}(h:Row w g t cs):w.rangeAt g 0 cs.toList:=fun j v hv=>by
 rw[Nat.zero_add,h.cell j]
 simpa using hv
end Go.Proofs.YtahbikfbjenfpaaGreatDoor
