/- Bytes as a string; bytes held against each other. Bytes made by make. Package packet: packets as values; lists held against each other. A whole row is read, in a drawn region. -/
import Derived.Test.YtahbikfbjenfpaaGreatDoorPa2
import Derived.Laws.BytesArg
import Derived.Laws.Cells
import Derived.Laws.MakeOwn
import Derived.Lib.ConvBytes
import Derived.Lib.Strings
import Derived.Test.YtahbikfbjenfpaaGreatDoorPa1
import Derived.Test.YtahbikfbjenfpaaGreatDoorPa0
import Derived.Deep.MidRow
import Derived.Laws.StructEq
set_option maxHeartbeats 2000000
set_option maxRecDepth 100000
namespace Go.Proofs.YtahbikfbjenfpaaGreatDoor
open Tryz Go.RowKit

/-- Bytes as a string's value. -/
def lI (l:aG):Value:= .string ⟨l.toArray⟩
theorem kO:Tryz.prog.underlying 9=some .string:=by kernel_rfl
theorem uG:Tryz.prog.underlying 5=some (.int .u8):=by kernel_rfl

theorem dO (w:au)(B:Nat)(A:Option Addr)(c:Nat)(l:aG)(h:cG w B A (l.map bq)):
  (convert 32 9 (.slice A l.length c)).run prog w= .ok (.string ⟨l.toArray⟩) w:=by
 rcases A with _ | ad
 ·have hl:l= []:=by
   rcases l with _ | ⟨x,l⟩
   ·rfl
   ·obtain⟨b,o,e,_⟩:=h (by simp)
    cases e
  subst hl;exact run_convert_bytes_nil w _ _ fF uG _ _ _ kO
 ·by_cases hl:l= []
  ·subst hl
   simp only[dR];rw[run_convert_bytes_string w _ _ _ _ _ _ fF uG kO];rw[run_bytesToString w ad 0 c [] (by simpa using run_loadCells_list (P:=prog) w ad [] (λj v hj=>by simp at hj))];rfl
  ·obtain⟨b,o,e,_,hc⟩:=h (by simpa using List.length_pos_iff.2 hl)
   injection e with e
   subst e;have:=run_convert_bytes_arg (P:=prog) w 32 5 fF uG b o l.length c (l.map λb=>(b.toNat:Int)) (by simp)
    (λi hi=>by
     rw[hc i (.int .u8 ((l[i]).toNat:Int)) (by simp[hi,bq])];simp[List.getD,hi]) _ kO
   rw[this]
   congr 3
   unfold strOfNums
   congr 1
   rw[List.map_map]
   congr 1
   refine(zX (g:=id) ?_).trans (List.map_id _);intro y _;simp

section
variable (w:au)
/-- append of bytes onto bytes of the call's own. -/
theorem mU (base:Nat)(v u:Value)(l1 l2:aG)(ty:TypeId)(hown:aS w base v l1)(hb:Bytes w w.heap.size u l2)(hlen:l1.length+l2.length<=140737488355328)(hbase:base<=w.heap.size):
  ∃A c w',(Builtin.append_ #[32,32] ty #[v,u]).run prog w= .ok (.slice A (l1++l2).length c) w' /\aS w' base (.slice A (l1++l2).length c) (l1++l2)/\ae w w' v.ownBlock.toList/\
   ((Value.slice A (l1++l2).length c).ownBlock=v.ownBlock\/(Value.slice A (l1++l2).length c).ownBlock=some w.heap.size):=by
 obtain⟨i0,hi,hz0,hz1,hz2⟩:=info_parts lB;obtain⟨A,c,rfl,hc,hnil,hcm,hl2,hL⟩:=hb;obtain⟨v',w',hrun,h2,h3,h4⟩:=mT (P:=prog) w base 32 ty 5 i0 (.int .u8 0) 1 fF hi hz0 hz1 hz2 rfl v l1.length (l1.map bq) hown w.heap.size A l2.length c (l2.map bq) (by simp) hL (tM l2) (by simp[maxLen];omega) (by omega) hbase;have h5:(l1++l2).length=l1.length+l2.length:=bI;have h6:aS w' base v' (l1++l2):=by unfold aS;rw[h5,List.map_append];exact h2
 obtain⟨A',c',rfl,_,_⟩:=ck h6;exact⟨A',c',w',hrun,h6,ae.fY h3,h4⟩

theorem aI {ops:Array Oper}{rest:List Oper}{o:Oper}{a:Act}{Q:Exit->Act->au->Prop}(hgd:o.guard=none)(s x:Operand)
  (ho:o.op= .call {callee:= .builtin .append,args:= #[s,x],argTypes:= #[32,32]})
  (base:Nat) (v u:Value) (l1 l2:aG) (hs:a.eval s=v) (hx:a.eval x=u) (hown:aS w base v l1) (hb:Bytes w w.heap.size u l2) (hlen:l1.length+l2.length<=140737488355328) (hbase:base<=w.heap.size)
  (h:∀A c w' l,Hid (l=l1++l2)->(l.length<=l1.length+l2.length/\l1.length+l2.length<=l.length)->aS w' base (.slice A l.length c) l->ae w w' v.ownBlock.toList->((Value.slice A l.length c).ownBlock=v.ownBlock\/(Value.slice A l.length c).ownBlock=some w.heap.size)->
   wpList prog ops Q rest (a.put o.dst (.slice A l.length c)) w'):wpList prog ops Q (o::rest) a w:=by
 refine tV hgd λK hK=> ?_
 obtain⟨A,c,w',hrun,h2,h3,h4⟩:=mU w base v u l1 l2 o.type hown hb hlen hbase;unfold Oper.wp execOp;simp only[ho,resolve,invoke,builtin,fo,gq,fk,xH,eu,fU,hs,hx,hrun];exact hK _ _ (h A c w' _ (zh rfl) ⟨by simp,by simp⟩ h2 h3 h4)

end

/-- Bytes as cells. -/
def s9 (l:aG):Array Value:=(l.map bq).toArray
theorem sL (l:aG)(i:Nat)(x:UInt8):(s9 l).setIfInBounds i (bq x)=s9 (l.set i x):=by
 simp[s9,List.map_set]
theorem sM (l:aG){i:Nat}(h:i < l.length):(s9 l)[i]? =some (bq l[i]):=by
 unfold s9;rw[cg,xx,rE h];rfl
theorem JL (n:Nat):madeCells (Value.int .u8 0).cells n=s9 (List.replicate n 0):=by
 unfold madeCells s9;refine Array.ext (by simp) λi h1 h2=> ?_
 simp[bq,Value.cells,Nat.mod_one]
theorem NN (w:au)(n:Nat)(hn:n<=1000000):(Instr.makeSlice 32 (.int .i64 (n:Int)) (.int .i64 (n:Int))).run prog w= .ok (.slice (some ⟨w.heap.size,0,none⟩) n n) (w.alloc (.cells (s9 (List.replicate n 0)) 5)):=by
 obtain⟨i0,hi,hz0,hz1,hz2⟩:=info_parts lB;have:=run_makeSlice (P:=prog) w 32 5 i0 (.int .u8 0) fF hi hz0 .i64 .i64 n n (by omega) (Int.le_refl _) (by rw[hz1];omega) (by rw[hz2];omega) (by omega);rw[hz1,iO,fT,JL]at this;exact this
theorem sD {w:au}{b:Nat}{l:aG}(h:Row w b 5 (s9 l)):cG w w.heap.size (some ⟨b,0,none⟩) (l.map bq):=λ_=>by
 refine⟨b,0,rfl,h.lt,λi u hu=> ?_⟩;rw[iP,h.cell,<-hu];unfold s9;rw[cg]
theorem gC (l:aG)(a e:Nat):(⟨l.toArray⟩:ByteArray).extract a e=⟨((l.drop a).take (e - a)).toArray⟩:=by
 apply ByteArray.ext;rw[ByteArray.data_extract];apply Array.ext';simp
theorem gV {s:aG}{S:ByteArray}(hS:(⟨s.toArray⟩:ByteArray)=S){i:Nat}(hi:i < s.length)(h:i < S.size):S[i]'h=s[i]:=by
 subst hS;rfl
/-- A text as bytes: a new block. -/
theorem uP (w:au)(l:aG):∃cap w',(convert 9 32 (.string ⟨l.toArray⟩)).run prog w= .ok (.slice (some ⟨w.heap.size,0,none⟩) l.length cap) w' /\ae w w' []/\∀(j:Nat) (h:j < l.length),w'.cell? ⟨w.heap.size,j,none⟩=some (bq l[j])/\w.heap.size < w'.heap.size:=by
 refine⟨_,_,Lib.run_convert_string_bytes w _ _ _ ⟨l.toArray⟩ kO fF uG,⟨rfl,rfl,rfl,by rw[Lib.bytesWorld_size];omega,λk hk _=>Lib.bytesWorld_at_old w _ _ k hk⟩,λj h=>⟨?_,by rw[Lib.bytesWorld_size];omega⟩⟩;rw[Lib.bytesWorld_cell w 5 ⟨l.toArray⟩ j (show j < l.length from h)];simp[bq,List.getD_eq_getElem?_getD,List.getElem?_eq_getElem h]
def aJ (w:au)(B:Bool)(e:Ending)(w' :au):Prop:=e= .returned (.bool B)/\ae w w' []

def gK (x:aG×Int):List Value:= [.string ⟨x.1.toArray⟩,.int .i64 x.2]
def jJ (x:Int):List Value:= [.int .i64 x]
theorem uO:Ch 2 gK:=⟨by omega,λ_=>rfl,λp u hu=>by
 simp only[gK,tU,tT,or_false]at hu
 rcases hu with rfl | rfl <;> rfl⟩
theorem p_:Ch 1 jJ:=⟨by omega,λ_=>rfl,λp u hu=>by obtain rfl:=List.mem_singleton.1 hu;rfl⟩
/-- A packet's cells. -/
def PJ (p:Pk)(sw sc sf:Value):List Value:=(Ua p.k p sw sc sf)
abbrev eO (p:Pk)(sw sc sf:Value):Value:= .agg (T_ p.k p sw sc sf)
/-- A block of cells, of whatever type. -/
def Kv (w:au)(b:Nat)(cs:Array Value):Prop:=∃t fr,w.heap[b]? =some (.cells cs t fr)
theorem Kv.lt {w:au}{b:Nat}{cs:Array Value}(h:Kv w b cs):b < w.heap.size:=by
 obtain⟨t,fr,h⟩:=h
 rcases eS b w.heap.size with hlt | hge
 ·exact hlt
 ·rw[tW hge]at h;cases h
theorem Kv.keeps {w w' :au}{b:Nat}{cs:Array Value}(h:Kv w b cs)(hk:ae w w' []):Kv w' b cs:=by
 have hb:=h.lt;obtain⟨t,fr,h⟩:=h;exact⟨t,fr,(hk.block b hb (by simp)).trans h⟩
theorem Kv.cell {w:au}{b:Nat}{cs:Array Value}(h:Kv w b cs)(i:Nat):w.cell? ⟨b,i,none⟩=cs[i]? :=by
 obtain⟨t,fr,h⟩:=h;exact cell_of_row w b i cs t fr h
theorem Row.blk {w:au}{b:Nat}{t:TypeId}{cs:Array Value}(h:Row w b t cs):Kv w b cs:=⟨t,_,h⟩
/-- A list that may only be read. -/
def cY {α:Type}(w:au)(k:Nat)(f:α->List Value)(A:Option Addr)(l:List α):Prop:=
 0 < l.length->∃b o cs,A=some ⟨b,o,none⟩/\Kv w b cs/\∀i (h:i < l.length) j,j < k->cs[o+i*k+j]? =(f l[i])[j]?
section
variable {α:Type} {w w' :au} {k:Nat} {f:α->List Value} {A:Option Addr} {l:List α}
theorem bw.g {e:TypeId}(h:bw w e k f A l):cY w k f A l:=λhp=>by
 obtain⟨b,o,cs,ea,hr,hc⟩:=h hp;exact⟨b,o,cs,ea,hr.blk,hc⟩
theorem cY.keeps (h:cY w k f A l)(hk:ae w w' []):cY w' k f A l:=λhp=>by
 obtain⟨b,o,cs,ea,hr,hc⟩:=h hp;exact⟨b,o,cs,ea,hr.keeps hk,hc⟩
theorem cY.nil (w:au)(k:Nat)(f:α->List Value)(A:Option Addr):cY w k f A []:=λh=>absurd h (by simp)
end
/-- A packet's lists lie there. -/
structure fR (w:au)(p:Pk)(sw sc sf:Value):Prop where
 lw:∃A c,sw= .slice A p.wants.length c/\cY w 2 gK A p.wants
 lc:∃A c,sc= .slice A p.aF.length c/\cY w 1 jJ A p.aF
 lf:∃A c,sf= .slice A p.fs.length c/\cY w 1 fC A p.fs
/-- A packet's lists lie there, each in a block of its elements. -/
structure jz (w:au)(p:Pk)(sw sc sf:Value):Prop where
 lw:∃A c,sw= .slice A p.wants.length c/\bw w 50 2 gK A p.wants
 lc:∃A c,sc= .slice A p.aF.length c/\bw w 3 1 jJ A p.aF
 lf:∃A c,sf= .slice A p.fs.length c/\bw w 9 1 fC A p.fs
theorem jz.g {w:au}{p:Pk}{sw sc sf:Value}(h:jz w p sw sc sf):fR w p sw sc sf:=by
 obtain⟨⟨A,a,e1,h1⟩,⟨B,b,e2,h2⟩,⟨C,c,e3,h3⟩⟩:=h;exact⟨⟨A,a,e1,h1.g⟩,⟨B,b,e2,h2.g⟩,⟨C,c,e3,h3.g⟩⟩
theorem jz.keeps {w w' :au}{p:Pk}{sw sc sf:Value}(h:jz w p sw sc sf)(hk:ae w w' []):jz w' p sw sc sf:=by
 obtain⟨⟨A,a,e1,h1⟩,⟨B,b,e2,h2⟩,⟨C,c,e3,h3⟩⟩:=h;exact⟨⟨A,a,e1,h1.keeps hk⟩,⟨B,b,e2,h2.keeps hk⟩,⟨C,c,e3,h3.keeps hk⟩⟩
theorem jz.slices {w:au}{p:Pk}{sw sc sf:Value}(h:jz w p sw sc sf):∃A1 c1 A2 c2 A3 c3,sw= .slice A1 p.wants.length c1/\sc= .slice A2 p.aF.length c2/\sf= .slice A3 p.fs.length c3:=by
 obtain⟨A,a,rfl,_⟩:=h.lw;obtain⟨B,b,rfl,_⟩:=h.lc;obtain⟨C,c,rfl,_⟩:=h.lf;exact⟨A,a,B,b,C,c,rfl,rfl,rfl⟩
theorem jz.empty {w:au}{p:Pk}(h1:p.wants= [])(h2:p.aF= [])(h3:p.fs= []):jz w p aN aN aN:=
 ⟨⟨none,0,by rw[h1];rfl,by rw[h1];exact bw.nil _ _ _ _ _⟩,⟨none,0,by rw[h2];rfl,by rw[h2];exact bw.nil _ _ _ _ _⟩,⟨none,0,by rw[h3];rfl,by rw[h3];exact bw.nil _ _ _ _ _⟩⟩
theorem fR.keeps {w w' :au}{p:Pk}{sw sc sf:Value}(h:fR w p sw sc sf)(hk:ae w w' []):fR w' p sw sc sf:=by
 obtain⟨⟨A,a,e1,h1⟩,⟨B,b,e2,h2⟩,⟨C,c,e3,h3⟩⟩:=h;exact⟨⟨A,a,e1,h1.keeps hk⟩,⟨B,b,e2,h2.keeps hk⟩,⟨C,c,e3,h3.keeps hk⟩⟩
theorem kP {α:Type}{l m:List α}{k:Nat}(hl:k < l.length)(hm:k < m.length)(h:l.take k=m.take k)(he:l[k]=m[k]):l.take (k+1)=m.take (k+1):=by
 rw[hO hl,hO hm,h,he]
theorem DB (w:au)(A B:Option Addr)(c d:Nat)(l m:List Int)(h1:cY w 1 jJ A l)(h2:cY w 1 jJ B m)(hle:l.length<=1000000):
  Calls prog 38 #[.slice A l.length c,.slice B m.length d] w (aJ w (decide (l=m))):=by
 have HH:=zh (And.intro h1 h2);clear h1 h2
 by_cases hlm:(l.length:Int)=(m.length:Int)
 ·have hlb:((l.length:Int) !=(m.length:Int))=false:=by simpa using hlm
  have wK:=zh (show l.length=m.length by omega);clear hlm
  go_enter func38,ntmps38
  go_wp2_with fail
  go_loopw [13] (λi wr=>∃j:Nat,j<=l.length/\i= .int .i64 j/\Hid (l.take j=m.take j/\ae w wr [])) (λi _=>l.length - (intOf i).toNat)
  case atStart=>exact⟨0,by omega,rfl,zh ⟨rfl,ae.refl _ _⟩⟩
  case round=>
   obtain⟨j,hj,rfl,HR⟩:=hrel
   by_cases hjl:j < l.length
   ·have Bv:j < m.length:=by have:=wK.o;omega
    have Ha:(j:Int) < (m.length:Int):=by omega
    obtain⟨b1,o1,cs1,rfl,hr1,hc1⟩:=HH.o.1 (by omega);obtain⟨b2,o2,Nl,rfl,hr2,gO⟩:=HH.o.2 (by omega);have HS:=zh (λh=>kP hjl Bv HR.o.1 h);have jt:=zh (show l[j]≠m[j]->l≠m from λh e=>h (by subst e;rfl));have hc1:=hc1 j hjl;have gO:=gO j Bv
    generalize l[j]=x at*
    generalize m[j]=y at*
    skip
    have M1:=λ(W' :au) (hW:ae wr W' [])=>((hr1.keeps (HR.o.2.ah hW)).cell (o1+j*1+0)).trans (hc1 0 (by omega))
    have M2:=λ(W' :au) (hW:ae wr W' [])=>((hr2.keeps (HR.o.2.ah hW)).cell (o2+j*1+0)).trans (gO 0 (by omega))
    have N1:=λ(W' :au) (_:ae wr W' [])=>True.intro
    have N2:=λ(W' :au) (_:ae wr W' [])=>True.intro
    simp only[jJ,bU,iO,fj]at M1 M2;clear hc1 gO hr1 hr2
    by_cases hxy:x=y
    ·subst hxy
     go_wp2_with fail
     refine aB _ (by kernel_rfl) rfl (by kernel_rfl) ?_
     iterate 3
      refine ls ?_;simp only[af]
     apply ak
     ·intro W vals hW ag
      simp only[knows]at ag
      try simp only[ai]at ag
      clear ag;have m0:=M1 W hW;have m1:=N1 W hW;refine⟨?_⟩;simp only[fill];go_simp
      first | exact⟨ae.refl _ _,rfl⟩ | exact⟨ae.alloc _ _,rfl⟩
     iterate 3
      simp only[af];refine ls ?_
     simp only[af];apply ak
     ·intro W vals hW ag
      simp only[knows]at ag
      try simp only[ai]at ag
      clear ag;have m0:=M2 W hW;have m1:=N2 W hW;refine⟨?_⟩;simp only[fill];go_simp
      first | exact⟨ae.refl _ _,rfl⟩ | exact⟨ae.alloc _ _,rfl⟩
     simp only[af];refine ls ?_;simp only[af];refine aq (λW vals hW ag=> ?_);simp only[aw]at ag
     try simp only[ai]at ag
     simp only[fill,Act.put,bo,bn,bh];clear ag M1 M2 N1 N2;have HK:=zh (HR.o.2.ah hW)
     go_wp2_with fail
     exact⟨⟨j+1,by omega,by go_num,zh ⟨HS.o (by first | rfl | trivial),HK.o⟩⟩,by simp[intOf];omega⟩
    ·have hq:(x !=y)=true:=by simpa using hxy
     have PQ:(x==y)=false:=by simpa using hxy
     have HD:=zh (show decide (l=m)=false from aZ (jt.o hxy))
     go_wp2_with fail
     refine aB _ (by kernel_rfl) rfl (by kernel_rfl) ?_
     iterate 3
      refine ls ?_;simp only[af]
     apply ak
     ·intro W vals hW ag
      simp only[knows]at ag
      try simp only[ai]at ag
      clear ag;have m0:=M1 W hW;have m1:=N1 W hW;refine⟨?_⟩;simp only[fill];go_simp
      first | exact⟨ae.refl _ _,rfl⟩ | exact⟨ae.alloc _ _,rfl⟩
     iterate 3
      simp only[af];refine ls ?_
     simp only[af];apply ak
     ·intro W vals hW ag
      simp only[knows]at ag
      try simp only[ai]at ag
      clear ag;have m0:=M2 W hW;have m1:=N2 W hW;refine⟨?_⟩;simp only[fill];go_simp
      first | exact⟨ae.refl _ _,rfl⟩ | exact⟨ae.alloc _ _,rfl⟩
     simp only[af];refine ls ?_;simp only[af];refine aq (λW vals hW ag=> ?_);simp only[aw]at ag
     try simp only[ai]at ag
     simp only[fill,Act.put,bo,bn,bh];clear ag M1 M2 N1 N2;have HK:=zh (HR.o.2.ah hW)
     go_wp2_with fail
     go_ret;exact⟨by rw[HD.o];rfl,HK.o⟩
   ·obtain rfl:j=l.length:=by omega
    have HE:=zh (show l=m from by
     have:=HR.o.1;rw[eQ,wK.o,eQ]at this;exact this)
    go_wp2_with fail
    go_ret;exact⟨by rw[bz HE.o];rfl,HR.o.2⟩
 ·have hlb:((l.length:Int) !=(m.length:Int))=true:=by simpa using hlm
  have HE:=zh (show l≠m from λe=>hlm (by rw[e]));clear hlm
  go_enter func38,ntmps38
  go_wp2_with fail
  go_ret;exact⟨by rw[aZ HE.o];rfl,ae.refl _ _⟩
theorem Bz (w:au)(A B:Option Addr)(c d:Nat)(l m:List aG)(h1:cY w 1 fC A l)(h2:cY w 1 fC B m)(hle:l.length<=1000000):
  Calls prog 39 #[.slice A l.length c,.slice B m.length d] w (aJ w (decide (l=m))):=by
 have HH:=zh (And.intro h1 h2);clear h1 h2
 by_cases hlm:(l.length:Int)=(m.length:Int)
 ·have hlb:((l.length:Int) !=(m.length:Int))=false:=by simpa using hlm
  have wK:=zh (show l.length=m.length by omega);clear hlm
  go_enter func39,ntmps39
  go_wp2_with fail
  go_loopw [13] (λi wr=>∃j:Nat,j<=l.length/\i= .int .i64 j/\Hid (l.take j=m.take j/\ae w wr [])) (λi _=>l.length - (intOf i).toNat)
  case atStart=>exact⟨0,by omega,rfl,zh ⟨rfl,ae.refl _ _⟩⟩
  case round=>
   obtain⟨j,hj,rfl,HR⟩:=hrel
   by_cases hjl:j < l.length
   ·have Bv:j < m.length:=by have:=wK.o;omega
    have Ha:(j:Int) < (m.length:Int):=by omega
    obtain⟨b1,o1,cs1,rfl,hr1,hc1⟩:=HH.o.1 (by omega);obtain⟨b2,o2,Nl,rfl,hr2,gO⟩:=HH.o.2 (by omega);have HS:=zh (λh=>kP hjl Bv HR.o.1 h);have jt:=zh (show l[j]≠m[j]->l≠m from λh e=>h (by subst e;rfl));have hc1:=hc1 j hjl;have gO:=gO j Bv
    generalize l[j]=x at*
    generalize m[j]=y at*
    skip
    have M1:=λ(W' :au) (hW:ae wr W' [])=>((hr1.keeps (HR.o.2.ah hW)).cell (o1+j*1+0)).trans (hc1 0 (by omega))
    have M2:=λ(W' :au) (hW:ae wr W' [])=>((hr2.keeps (HR.o.2.ah hW)).cell (o2+j*1+0)).trans (gO 0 (by omega))
    have N1:=λ(W' :au) (_:ae wr W' [])=>True.intro
    have N2:=λ(W' :au) (_:ae wr W' [])=>True.intro
    simp only[fC,bU,iO,fj]at M1 M2;clear hc1 gO hr1 hr2
    by_cases hxy:x=y
    ·subst hxy
     go_wp2_with fail
     refine aB _ (by kernel_rfl) rfl (by kernel_rfl) ?_
     iterate 3
      refine ls ?_;simp only[af]
     apply ak
     ·intro W vals hW ag
      simp only[knows]at ag
      try simp only[ai]at ag
      clear ag;have m0:=M1 W hW;have m1:=N1 W hW;refine⟨?_⟩;simp only[fill];go_simp
      first | exact⟨ae.refl _ _,rfl⟩ | exact⟨ae.alloc _ _,rfl⟩
     iterate 3
      simp only[af];refine ls ?_
     simp only[af];apply ak
     ·intro W vals hW ag
      simp only[knows]at ag
      try simp only[ai]at ag
      clear ag;have m0:=M2 W hW;have m1:=N2 W hW;refine⟨?_⟩;simp only[fill];go_simp
      first | exact⟨ae.refl _ _,rfl⟩ | exact⟨ae.alloc _ _,rfl⟩
     simp only[af];refine ls ?_;simp only[af];refine aq (λW vals hW ag=> ?_);simp only[aw]at ag
     try simp only[ai]at ag
     simp only[fill,Act.put,bo,bn,bh];clear ag M1 M2 N1 N2;have HK:=zh (HR.o.2.ah hW)
     go_wp2_with fail
     exact⟨⟨j+1,by omega,by go_num,zh ⟨HS.o (by first | rfl | trivial),HK.o⟩⟩,by simp[intOf];omega⟩
    ·have hq:(x !=y)=true:=by simpa using hxy
     have PQ:(x==y)=false:=by simpa using hxy
     have HD:=zh (show decide (l=m)=false from aZ (jt.o hxy))
     go_wp2_with fail
     refine aB _ (by kernel_rfl) rfl (by kernel_rfl) ?_
     iterate 3
      refine ls ?_;simp only[af]
     apply ak
     ·intro W vals hW ag
      simp only[knows]at ag
      try simp only[ai]at ag
      clear ag;have m0:=M1 W hW;have m1:=N1 W hW;refine⟨?_⟩;simp only[fill];go_simp
      first | exact⟨ae.refl _ _,rfl⟩ | exact⟨ae.alloc _ _,rfl⟩
     iterate 3
      simp only[af];refine ls ?_
     simp only[af];apply ak
     ·intro W vals hW ag
      simp only[knows]at ag
      try simp only[ai]at ag
      clear ag;have m0:=M2 W hW;have m1:=N2 W hW;refine⟨?_⟩;simp only[fill];go_simp
      first | exact⟨ae.refl _ _,rfl⟩ | exact⟨ae.alloc _ _,rfl⟩
     simp only[af];refine ls ?_;simp only[af];refine aq (λW vals hW ag=> ?_);simp only[aw]at ag
     try simp only[ai]at ag
     simp only[fill,Act.put,bo,bn,bh];clear ag M1 M2 N1 N2;have HK:=zh (HR.o.2.ah hW)
     go_wp2_with fail
     go_ret;exact⟨by rw[HD.o];rfl,HK.o⟩
   ·obtain rfl:j=l.length:=by omega
    have HE:=zh (show l=m from by
     have:=HR.o.1;rw[eQ,wK.o,eQ]at this;exact this)
    go_wp2_with fail
    go_ret;exact⟨by rw[bz HE.o];rfl,HR.o.2⟩
 ·have hlb:((l.length:Int) !=(m.length:Int))=true:=by simpa using hlm
  have HE:=zh (show l≠m from λe=>hlm (by rw[e]));clear hlm
  go_enter func39,ntmps39
  go_wp2_with fail
  go_ret;exact⟨by rw[aZ HE.o];rfl,ae.refl _ _⟩
theorem Bx (w:au)(A B:Option Addr)(c d:Nat)(l m:List (aG×Int))(h1:cY w 2 gK A l)(h2:cY w 2 gK B m)(hle:l.length<=1000000):
  Calls prog 37 #[.slice A l.length c,.slice B m.length d] w (aJ w (decide (l=m))):=by
 have HH:=zh (And.intro h1 h2);clear h1 h2
 by_cases hlm:(l.length:Int)=(m.length:Int)
 ·have hlb:((l.length:Int) !=(m.length:Int))=false:=by simpa using hlm
  have wK:=zh (show l.length=m.length by omega);clear hlm
  go_enter func37,ntmps37
  go_wp2_with fail
  go_loopw [13] (λi wr=>∃j:Nat,j<=l.length/\i= .int .i64 j/\Hid (l.take j=m.take j/\ae w wr [])) (λi _=>l.length - (intOf i).toNat)
  case atStart=>exact⟨0,by omega,rfl,zh ⟨rfl,ae.refl _ _⟩⟩
  case round=>
   obtain⟨j,hj,rfl,HR⟩:=hrel
   by_cases hjl:j < l.length
   ·have Bv:j < m.length:=by have:=wK.o;omega
    have Ha:(j:Int) < (m.length:Int):=by omega
    obtain⟨b1,o1,cs1,rfl,hr1,hc1⟩:=HH.o.1 (by omega);obtain⟨b2,o2,Nl,rfl,hr2,gO⟩:=HH.o.2 (by omega);have HS:=zh (λh=>kP hjl Bv HR.o.1 h);have jt:=zh (show l[j]≠m[j]->l≠m from λh e=>h (by subst e;rfl));have hc1:=hc1 j hjl;have gO:=gO j Bv
    generalize l[j]=x at*
    generalize m[j]=y at*
    (obtain⟨x1,x2⟩:=x;obtain⟨y1,y2⟩:=y)
    have M1:=λ(W' :au) (hW:ae wr W' [])=>((hr1.keeps (HR.o.2.ah hW)).cell (o1+j*2+0)).trans (hc1 0 (by omega))
    have M2:=λ(W' :au) (hW:ae wr W' [])=>((hr2.keeps (HR.o.2.ah hW)).cell (o2+j*2+0)).trans (gO 0 (by omega))
    have N1:=λ(W' :au) (hW:ae wr W' [])=>((hr1.keeps (HR.o.2.ah hW)).cell (o1+j*2+1)).trans (hc1 1 (by omega))
    have N2:=λ(W' :au) (hW:ae wr W' [])=>((hr2.keeps (HR.o.2.ah hW)).cell (o2+j*2+1)).trans (gO 1 (by omega))
    simp only[gK,bU,fe,fj]at M1 M2 N1 N2;clear hc1 gO hr1 hr2
    by_cases hxy:x1=y1
    ·subst hxy
     by_cases hxy:x2=y2
     ·subst hxy
      go_wp2_with fail
      refine aB _ (by kernel_rfl) rfl (by kernel_rfl) ?_
      iterate 3
       refine ls ?_;simp only[af]
      apply ak
      ·intro W vals hW ag
       simp only[knows]at ag
       try simp only[ai]at ag
       clear ag;have m0:=M1 W hW;have m1:=N1 W hW;refine⟨?_⟩;simp only[fill];go_simp
       first | exact⟨ae.refl _ _,rfl⟩ | exact⟨ae.alloc _ _,rfl⟩
      iterate 3
       simp only[af];refine ls ?_
      simp only[af];apply ak
      ·intro W vals hW ag
       simp only[knows]at ag
       try simp only[ai]at ag
       clear ag;have m0:=M2 W hW;have m1:=N2 W hW;refine⟨?_⟩;simp only[fill];go_simp
       first | exact⟨ae.refl _ _,rfl⟩ | exact⟨ae.alloc _ _,rfl⟩
      simp only[af];refine ls ?_;simp only[af];refine aq (λW vals hW ag=> ?_);simp only[aw]at ag
      try simp only[ai]at ag
      simp only[fill,Act.put,bo,bn,bh];clear ag M1 M2 N1 N2;have HK:=zh (HR.o.2.ah hW)
      go_wp2_with fail
      exact⟨⟨j+1,by omega,by go_num,zh ⟨HS.o (by first | rfl | trivial),HK.o⟩⟩,by simp[intOf];omega⟩
     ·skip
      have HD:=zh (show decide (l=m)=false from aZ (jt.o (λe=>hxy (by injection e))))
      go_wp2_with fail
      refine aB _ (by kernel_rfl) rfl (by kernel_rfl) ?_
      iterate 3
       refine ls ?_;simp only[af]
      apply ak
      ·intro W vals hW ag
       simp only[knows]at ag
       try simp only[ai]at ag
       clear ag;have m0:=M1 W hW;have m1:=N1 W hW;refine⟨?_⟩;simp only[fill];go_simp
       first | exact⟨ae.refl _ _,rfl⟩ | exact⟨ae.alloc _ _,rfl⟩
      iterate 3
       simp only[af];refine ls ?_
      simp only[af];apply ak
      ·intro W vals hW ag
       simp only[knows]at ag
       try simp only[ai]at ag
       clear ag;have m0:=M2 W hW;have m1:=N2 W hW;refine⟨?_⟩;simp only[fill];go_simp
       first | exact⟨ae.refl _ _,rfl⟩ | exact⟨ae.alloc _ _,rfl⟩
      simp only[af];refine ls ?_;simp only[af];refine aq (λW vals hW ag=> ?_);simp only[aw]at ag
      try simp only[ai]at ag
      simp only[fill,Act.put,bo,bn,bh];clear ag M1 M2 N1 N2;have HK:=zh (HR.o.2.ah hW)
      go_wp2_with fail
      go_ret;exact⟨by rw[HD.o];rfl,HK.o⟩
    ·skip
     have HD:=zh (show decide (l=m)=false from aZ (jt.o (λe=>hxy (by injection e))))
     go_wp2_with fail
     refine aB _ (by kernel_rfl) rfl (by kernel_rfl) ?_
     iterate 3
      refine ls ?_;simp only[af]
     apply ak
     ·intro W vals hW ag
      simp only[knows]at ag
      try simp only[ai]at ag
      clear ag;have m0:=M1 W hW;have m1:=N1 W hW;refine⟨?_⟩;simp only[fill];go_simp
      first | exact⟨ae.refl _ _,rfl⟩ | exact⟨ae.alloc _ _,rfl⟩
     iterate 3
      simp only[af];refine ls ?_
     simp only[af];apply ak
     ·intro W vals hW ag
      simp only[knows]at ag
      try simp only[ai]at ag
      clear ag;have m0:=M2 W hW;have m1:=N2 W hW;refine⟨?_⟩;simp only[fill];go_simp
      first | exact⟨ae.refl _ _,rfl⟩ | exact⟨ae.alloc _ _,rfl⟩
     simp only[af];refine ls ?_;simp only[af];refine aq (λW vals hW ag=> ?_);simp only[aw]at ag
     try simp only[ai]at ag
     simp only[fill,Act.put,bo,bn,bh];clear ag M1 M2 N1 N2;have HK:=zh (HR.o.2.ah hW)
     go_wp2_with fail
     go_ret;exact⟨by rw[HD.o];rfl,HK.o⟩
   ·obtain rfl:j=l.length:=by omega
    have HE:=zh (show l=m from by
     have:=HR.o.1;rw[eQ,wK.o,eQ]at this;exact this)
    go_wp2_with fail
    go_ret;exact⟨by rw[bz HE.o];rfl,HR.o.2⟩
 ·have hlb:((l.length:Int) !=(m.length:Int))=true:=by simpa using hlm
  have HE:=zh (show l≠m from λe=>hlm (by rw[e]));clear hlm
  go_enter func37,ntmps37
  go_wp2_with fail
  go_ret;exact⟨by rw[aZ HE.o];rfl,ae.refl _ _⟩

theorem kQ {P:Program}{R:au->au->Prop}{ops:Array Oper}{a:Act}{o:Oper}{φ:Value->au->Prop}{W:au}(hw:Region.wanted o (yielded ops a.tmps)=true){t:TypeId}{x:Operand}(ho:o.op= .load t x){g:Nat}{cs:List Value}{d:TypeDesc}(hx:a.eval x= .pointer (some ⟨g,0,none⟩))(hc:W.rangeAt g 0 cs)(hu:P.underlying t=some d)(hd:d.isRow=true)(hi:(P.info? t).map (·.size)=some cs.length)(hR:R W W)(hφ:φ (.agg cs.toArray) W):fH P R ops a o φ W:=by
 refine⟨?_⟩;rw[aE hw];unfold execOp;simp only[ho,hx,Instr.loadAt,Instr.sureAddr,fo,gq,fk,run_loadVar_mid W g 0 t cs d hc hu hd hi];exact⟨hR,hφ⟩
theorem vP {P:Program}{R:au->au->Prop}{ops:Array Oper}{a:Act}{o:Oper}{φ:Value->au->Prop}{W:au}(hw:Region.wanted o (yielded ops a.tmps)=true){t t' :TypeId}{x y:Operand}(ho:o.op= .binOp .eql t x y t'){X Y:Array Value}{r:Bool}(hx:a.eval x= .agg X)(hy:a.eval y= .agg Y)(hm:P.eqGuardType P.depth t=false)(h:∀W,(Op.equalIn 10000 t (.agg X) (.agg Y)).run P W= .ok r W)(hR:R W W)(hφ:φ (.bool r) W):fH P R ops a o φ W:=by
 refine⟨?_⟩;rw[aE hw];unfold execOp;simp only[ho,hx,hy,fo,gq,fk,run_eqGuard_agg _ _ _ _ _ _ _ hm,run_eql_struct,h];exact⟨hR,hφ⟩
theorem aD {w:au}{g:Nat}{t:TypeId}{cs:Array Value}(h:Row w g t cs):w.rangeAt g 0 cs.toList:=λj v hv=>by
 rw[iP,h.cell j]
 simpa using hv
end Go.Proofs.YtahbikfbjenfpaaGreatDoor
