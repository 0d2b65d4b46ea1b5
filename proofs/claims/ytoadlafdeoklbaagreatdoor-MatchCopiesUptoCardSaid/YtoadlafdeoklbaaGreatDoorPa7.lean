/- Lists of elements of whatever number of cells, in blocks of their own type: read, appended to. Bytes as a string; bytes held against each other. Bytes made by make. -/
import Derived.Test.YtoadlafdeoklbaaGreatDoorPa5
import Derived.Test.YtoadlafdeoklbaaGreatDoorPa6
import Derived.Test.YtoadlafdeoklbaaGreatDoorPa2
import Derived.Laws.BytesArg
import Derived.Laws.Cells
import Derived.Laws.MakeOwn
import Derived.Lib.ConvBytes
import Derived.Lib.Strings

namespace Go.Proofs.YtoadlafdeoklbaaGreatDoor
open Go.RowKit

/-- How an element lies: in k cells. -/
structure Enc {α:Type}(k:Nat)(f:α→List Value):Prop where
 pos:0 < k
 len:∀a,(f a).length=k
 one:∀a,∀u∈f a,u.oneCell' =true
/-- A slice type, its elements. -/
structure ElemN (P:Program)(t e:TypeId)(k:Nat):Prop where
 out:∃(i:TypeInfo) (z:Value) (bytes:Nat),P.underlying t=some (.slice e)∧P.info? e=some i∧i.zero=some z∧i.size=k∧i.bytes=bytes∧bytes≤100000∧z.cells.size=k
theorem elemN_of {P:Program}{t e:TypeId}{k bytes:Nat}{z:Value}(ht:P.underlying t=some (.slice e))(hi:(P.info? e).map (fun i=>(i.zero,i.size,i.bytes))=some (some z,k,bytes))(hb:bytes≤100000)(hz:z.cells.size=k):ElemN P t e k:=by
 obtain⟨i,h1,h2,h3,h4⟩:=info_parts hi;exact⟨i,z,bytes,ht,h1,h2,h3,h4,hb,hz⟩
section
variable {α:Type} {k:Nat} {f:α→List Value} {w w' :World} {e t:TypeId} {A:Option Addr} {l:List α} {B:Nat}
theorem flat_length (E:Enc k f)(l:List α):(l.flatMap f).length=l.length*k:=by
 induction l with
 | nil=>simp
 | cons a l ih=>rw[List.flatMap_cons,List.length_append,E.len,ih,List.length_cons];rw[Nat.add_mul];omega
theorem flat_get (E:Enc k f){l:List α}{i j:Nat}(hi:i < l.length)(hj:j < k):(l.flatMap f)[i*k+j]? =(f l[i])[j]? :=by
 induction l generalizing i with
 | nil=>simp at hi
 | cons a l ih=>
  rw[List.flatMap_cons]
  cases i with
  | zero=>rw[Nat.zero_mul,Nat.zero_add,List.getElem?_append_left (by rw[E.len];exact hj)];rfl
  | succ i=>
   rw[List.getElem?_append_right (by rw[E.len,Nat.succ_mul];omega),E.len,show(i+1)*k+j - k=i*k+j by rw[Nat.succ_mul];omega,ih (by simpa using hi)];rfl
theorem flat_one (E:Enc k f)(l:List α):∀u∈l.flatMap f,u.oneCell' =true:=fun u hu=>by
 obtain⟨a,_,ha⟩:=List.mem_flatMap.1 hu;exact E.one a u ha
/-- A list in a block of cells. -/
def ListAt (w:World)(e:TypeId)(k:Nat)(f:α→List Value)(A:Option Addr)(l:List α):Prop:=
 0 < l.length→∃b o cs,A=some ⟨b,o,none⟩∧Row w b e cs∧∀i (h:i < l.length) j,j < k→cs[o+i*k+j]? =(f l[i])[j]?
theorem ListAt.keep {S:List Nat}(h:ListAt w e k f A l)(hk:Keeps w w' S)(hS:∀x∈S,∀cs,¬Row w x e cs):ListAt w' e k f A l:=fun hp=>by
 obtain⟨b,o,cs,ea,hr,hc⟩:=h hp;exact⟨b,o,cs,ea,hr.keep hk (fun hm=>hS b hm cs hr),hc⟩
theorem ListAt.keeps (h:ListAt w e k f A l)(hk:Keeps w w' []):ListAt w' e k f A l:=h.keep hk (by simp)
theorem ListAt.at_ (h:ListAt w e k f A l){i:Nat}(hi:i < l.length):∃b o,A=some ⟨b,o,none⟩∧b < w.heap.size∧∀j,j < k→w.cell? ⟨b,o+i*k+j,none⟩=(f l[i])[j]? :=by
 obtain⟨b,o,cs,ea,hr,hc⟩:=h (by omega);exact⟨b,o,ea,hr.lt,fun j hj=>(hr.cell _).trans (hc i hi j hj)⟩
theorem ListAt.lies (E:Enc k f)(h:ListAt w e k f A l):Lies w w.heap.size A (l.flatMap f):=fun hp=>by
 rw[flat_length E]at hp;have hl:0 < l.length:=by
  rcases Nat.eq_zero_or_pos l.length with h0 | h0
  ·rw[h0,Nat.zero_mul]at hp;omega
  ·exact h0
 obtain⟨b,o,cs,ea,hr,hc⟩:=h hl;refine⟨b,o,ea,hr.lt,fun i u hu=> ?_⟩;have hi:i < l.length*k:=by
  rw[←flat_length E];exact(List.getElem?_eq_some_iff.1 hu).1
 have hk:=E.pos;have h1:i / k < l.length:=(Nat.div_lt_iff_lt_mul hk).2 hi;have h2:i % k < k:=Nat.mod_lt _ hk;have h3:i / k*k+i % k=i:=by rw[Nat.mul_comm];exact Nat.div_add_mod i k
 have h4:=hc _ h1 _ h2;rw[Nat.add_assoc,h3]at h4;rw[hr.cell,h4,←flat_get E h1 h2,h3,hu]
theorem ListAt.nil (w:World)(e:TypeId)(k:Nat)(f:α→List Value)(A:Option Addr):ListAt w e k f A []:=fun h=>absurd h (by simp)
theorem ListAt.take (h:ListAt w e k f A l)(n:Nat):ListAt w e k f A (l.take n):=fun hp=>by
 rw[List.length_take]at hp;obtain⟨b,o,cs,ea,hr,hc⟩:=h (by omega);exact⟨b,o,cs,ea,hr,fun i hi j hj=>by rw[List.length_take]at hi;rw[hc i (by omega) j hj,List.getElem_take]⟩
/-- A list of the call's own. -/
abbrev OwnN (w:World)(B:Nat)(e:TypeId)(k:Nat)(f:α→List Value)(v:Value)(l:List α):Prop:=w.ownsRow B e k v l.length (l.flatMap f)
theorem OwnN.slice {v:Value}(h:OwnN w B e k f v l):∃A c,v= .slice A l.length c:=by
 obtain⟨A,c,rfl,_⟩:=ownN_slice h;exact⟨A,c,rfl⟩
theorem OwnN.nil (w:World)(B:Nat)(e:TypeId)(k:Nat)(f:α→List Value):OwnN w B e k f (.slice none 0 0) []:=⟨by simp,.inl ⟨rfl,rfl⟩⟩
theorem OwnN.keep {S:List Nat}{v:Value}(h:OwnN w B e k f v l)(hk:Keeps w w' S)(hS:∀x∈S,x < B∨∀cs,¬Row w x e cs):OwnN w' B e k f v l:=ownN_keep h hk fun g hg hm=>by
 obtain⟨h1,cs,hr⟩:=ownN_row h g hg
 rcases hS g hm with h2 | h2
 ·omega
 ·exact h2 cs hr
theorem OwnN.keeps {v:Value}(h:OwnN w B e k f v l)(hk:Keeps w w' []):OwnN w' B e k f v l:=h.keep hk (by simp)
theorem OwnN.rows {v:Value}(h:OwnN w B e k f v l):∀g∈v.ownBlock.toList,B≤g∧∃cs,Row w g e cs:=fun g hg=>ownN_row h g (by simpa using hg)
theorem OwnN.at_ {c:Nat}(h:OwnN w B e k f (.slice A l.length c) l)(E:Enc k f):ListAt w e k f A l:=fun hp=>by
 rcases h.2 with⟨hv,h0⟩ | ⟨gb,cap,cur,hv,e2,hh,h1,h2,h3,h4⟩
 ·omega
 ·injection hv with hv
  refine⟨gb,0,cur,hv,hh,fun i hi j hj=> ?_⟩;rw[Nat.zero_add,←flat_get E hi hj,←h4,List.getElem?_take,if_pos,Array.getElem?_toList];have:i*k+k≤l.length*k:=by rw[←Nat.succ_mul];exact Nat.mul_le_mul_right _ hi
  omega
theorem run_append_N {P:Program}(T:ElemN P t e k)(E:Enc k f)(v:Value)(A:Option Addr)(c:Nat)(l1 l2:List α)(ty:TypeId)(hown:OwnN w B e k f v l1)(hb:Lies w w.heap.size A (l2.flatMap f))(hlen:l1.length+l2.length≤1000000)(hbase:B≤w.heap.size):
  ∃A' c' w',(Builtin.append_ #[t,t] ty #[v,.slice A l2.length c]).run P w= .ok (.slice A' (l1++l2).length c') w' ∧OwnN w' B e k f (.slice A' (l1++l2).length c') (l1++l2)∧Keeps w w' v.ownBlock.toList∧
   ((Value.slice A' (l1++l2).length c').ownBlock=v.ownBlock∨(Value.slice A' (l1++l2).length c').ownBlock=some w.heap.size):=by
 obtain⟨i0,z,bytes,ht,hi,hz0,hz1,hz2,hz3,hz4⟩:=T.out;have hbb:(l1.length+l2.length)*bytes≤1000000*100000:=Nat.mul_le_mul hlen hz3;obtain⟨v',w',hrun,h2,h3,h4⟩:=run_append_liesN (P:=P) w B t ty e i0 z k bytes ht hi hz0 hz1 hz2 hz4 E.pos v l1.length (l1.flatMap f) hown w.heap.size A l2.length c (l2.flatMap f) (flat_length E l2) hb (flat_one E l2) (by unfold maxLen;omega) (by omega) hbase;have h5:(l1++l2).length=l1.length+l2.length:=List.length_append;have h6:OwnN w' B e k f v' (l1++l2):=by unfold OwnN;rw[h5,List.flatMap_append];exact h2
 obtain⟨A',c',rfl⟩:=OwnN.slice h6;exact⟨A',c',w',hrun,h6,Keeps.of_grown h3,h4⟩
theorem wpList_append_N {P:Program}{ops:Array Oper}{rest:List Oper}{o:Oper}{a:Act}{Q:Exit→Act→World→Prop}(T:ElemN P t e k)(E:Enc k f)(hgd:o.guard=none)(s x:Operand)
  (ho:o.op= .call {callee:= .builtin .append,args:= #[s,x],argTypes:= #[t,t]})
  (B:Nat) (v:Value) (A:Option Addr) (n c:Nat) (l1 l2:List α) (hn:l2.length=n) (hs:a.eval s=v) (hx:a.eval x= .slice A n c) (hown:OwnN w B e k f v l1) (hb:Lies w w.heap.size A (l2.flatMap f)) (hlen:l1.length+l2.length≤1000000) (hbase:B≤w.heap.size)
  (h:∀A c w' l,Hid (l=l1++l2)→(l.length≤l1.length+l2.length∧l1.length+l2.length≤l.length)→OwnN w' B e k f (.slice A l.length c) l→Keeps w w' v.ownBlock.toList→((Value.slice A l.length c).ownBlock=v.ownBlock∨(Value.slice A l.length c).ownBlock=some w.heap.size)→
   wpList P ops Q rest (a.put o.dst (.slice A l.length c)) w'):wpList P ops Q (o::rest) a w:=by
 subst hn;refine wpList_plain hgd fun K hK=> ?_
 obtain⟨A,c,w',hrun,h2,h3,h4⟩:=run_append_N T E v A c l1 l2 o.type hown hb hlen hbase;unfold Oper.wp execOp;simp only[ho,resolve,invoke,builtin,Sem.run_bind,Sem.run_pure,Result.andThen_ok,List.map_toArray,List.map_cons,List.map_nil,hs,hx,hrun];exact hK _ _ (h A c w' _ (zh rfl) ⟨by simp,by simp⟩ h2 h3 h4)
/-- append at an operation of a region that draws its order. -/
theorem opOk_append_N {P:Program}{R:World→World→Prop}{ops:Array Oper}{o:Oper}{a:Act}{φ' :Value→World→Prop}(T:ElemN P t e k)(E:Enc k f)(hgd:o.guard=none)(s x:Operand)
  (ho:o.op= .call {callee:= .builtin .append,args:= #[s,x],argTypes:= #[t,t]}) (B:Nat) (v:Value) (A:Option Addr) (n c:Nat) (l1 l2:List α) (hn:l2.length=n) (hs:a.eval s=v) (hx:a.eval x= .slice A n c) (hown:OwnN w B e k f v l1) (hb:Lies w w.heap.size A (l2.flatMap f)) (hlen:l1.length+l2.length≤1000000) (hB:B≤w.heap.size)
  (h:∀A' c' w',OwnN w' B e k f (.slice A' (l1++l2).length c') (l1++l2)→Keeps w w' v.ownBlock.toList→((Value.slice A' (l1++l2).length c').ownBlock=v.ownBlock∨(Value.slice A' (l1++l2).length c').ownBlock=some w.heap.size)→R w w' ∧φ' (.slice A' (l1++l2).length c') w'):opOk P R ops a o φ' w:=by
 subst hn;refine⟨?_⟩;have hw:Region.wanted o (yielded ops a.tmps)=true:=by simp[Region.wanted,hgd]
 rw[if_pos hw];obtain⟨A',c',w',hrun,h2,h3,h4⟩:=run_append_N T E v A c l1 l2 o.type hown hb hlen hB;unfold execOp;simp only[ho,resolve,invoke,builtin,Sem.run_bind,Sem.run_pure,Result.andThen_ok,List.map_toArray,List.map_cons,List.map_nil,hs,hx,hrun];exact h A' c' w' h2 h3 h4
/-- A list laid out by the call: one block. -/
theorem listAt_row (E:Enc k f){b:Nat}(hr:Row w b e (l.flatMap f).toArray):ListAt w e k f (some ⟨b,0,none⟩) l:=fun _=>
 ⟨b,0,_,rfl,hr,fun i hi j hj=>by rw[Nat.zero_add,zga,flat_get E hi hj]⟩
theorem lies_of_row {b:Nat}{cs:Array Value}{xs:List Value}(hr:Row w b e cs)(h:cs.toList=xs):Lies w w.heap.size (some ⟨b,0,none⟩) xs:=fun _=>by
 refine⟨b,0,rfl,hr.lt,fun i u hu=> ?_⟩;subst h;rw[Nat.zero_add,hr.cell,←hu,Array.getElem?_toList]
end
/-- An element of one cell, at its place in a list of the call's own. -/
theorem OwnN.one {α:Type}{f:α→List Value}{q:α→Value}{w:World}{B:Nat}{e:TypeId}{A:Option Addr}{n c m:Nat}{l:List α}(hq:∀a,f a= [q a])(h:OwnN w B e 1 f (.slice A n c) l)(hm:m < l.length):
  ∃g cur,A=some ⟨g,0,none⟩∧n=l.length∧B≤g∧Row w g e cur∧cur[m]? =some (q l[m])∧∀a,OwnN (w.setCell ⟨g,m,none⟩ (q a)) B e 1 f (.slice A n c) (l.set m a):=by
 have hfl:∀l:List α,l.flatMap f=l.map q:=fun l=>by
  induction l with
  | nil=>rfl
  | cons a l ih=>rw[List.flatMap_cons,ih,hq];rfl
 rcases h.2 with⟨hv,h0⟩ | ⟨g,cap,cur,hv,hg,hh,h1,h2,h3,h4⟩
 ·omega
 ·injection hv with e1 e2 e3
  subst e1 e2 e3;rw[hfl,Nat.mul_one]at h4;have hsz:m < cur.size:=by rw[h3];omega
  refine⟨g,cur,rfl,rfl,hg,hh, ?_,fun a=>⟨by rw[hfl];simp,.inr ⟨g,c,cur.setIfInBounds m (q a),by simp,hg,(show Row w g e cur from hh).store m (q a),by simpa using h1,h2,by simpa using h3, ?_⟩⟩⟩
  ·have e:=congrArg (fun l=>l[m]?) h4
   simp only[List.getElem?_take,hm,if_true,List.getElem?_map,Array.getElem?_toList]at e;rw[e,List.getElem?_eq_getElem hm];rfl
  ·rw[hfl,Nat.mul_one,Array.toList_setIfInBounds,List.length_set,List.take_set,h4,List.map_set]
/-- Texts. -/
def txtV (l:List UInt8):List Value:= [.string ⟨l.toArray⟩]
theorem encTxt:Enc 1 txtV:=⟨by omega,fun _=>rfl,fun a u hu=>by obtain rfl:=List.mem_singleton.1 hu;rfl⟩

/-- Bytes as a string's value. -/
def strV (l:List UInt8):Value:= .string ⟨l.toArray⟩
theorem undString:Tryz.prog.underlying 9=some .string:=by kernel_rfl
theorem undByte:Tryz.prog.underlying 5=some (.int .u8):=by kernel_rfl

set_option maxRecDepth 100000 in
theorem conv_str (w:World)(B:Nat)(A:Option Addr)(c:Nat)(l:List UInt8)(h:Lies w B A (l.map byteV)):
  (convert 151 9 (.slice A l.length c)).run Tryz.prog w= .ok (.string ⟨l.toArray⟩) w:=by
 rcases A with _ | ad
 ·have hl:l= []:=by
   rcases l with _ | ⟨x,l⟩
   ·rfl
   ·obtain⟨b,o,e,_⟩:=h (by simp)
    cases e
  subst hl;exact run_convert_bytes_nil w _ _ undBytes undByte _ _ _ undString
 ·by_cases hl:l= []
  ·subst hl
   simp only[List.length_nil];rw[run_convert_bytes_string w _ _ _ _ _ _ undBytes undByte undString];rw[run_bytesToString w ad 0 c [] (by simpa using run_loadCells_list (P:=Tryz.prog) w ad [] (fun j v hj=>by simp at hj))];rfl
  ·obtain⟨b,o,e,_,hc⟩:=h (by simpa using List.length_pos_iff.2 hl)
   injection e with e
   subst e;have:=run_convert_bytes_arg (P:=Tryz.prog) w 151 5 undBytes undByte b o l.length c (l.map fun b=>(b.toNat:Int)) (by simp)
    (fun i hi=>by
     rw[hc i (.int .u8 ((l[i]).toNat:Int)) (by simp[hi,byteV])];simp[List.getD,hi]) _ undString
   rw[this]
   congr 3
   unfold strOfNums
   congr 1
   rw[List.map_map]
   congr 1
   refine(List.map_congr_left (g:=id) ?_).trans (List.map_id _);intro y _;simp

section
variable (w:World)
end

/-- Bytes as cells. -/
def byC (l:List UInt8):Array Value:=(l.map byteV).toArray
theorem byC_set (l:List UInt8)(i:Nat)(x:UInt8):(byC l).setIfInBounds i (byteV x)=byC (l.set i x):=by
 simp[byC,List.map_set]
theorem byC_get (l:List UInt8){i:Nat}(h:i < l.length):(byC l)[i]? =some (byteV l[i]):=by
 unfold byC;rw[zga,List.getElem?_map,List.getElem?_eq_getElem h];rfl
theorem made_by (n:Nat):madeCells (Value.int .u8 0).cells n=byC (List.replicate n 0):=by
 unfold madeCells byC;refine Array.ext (by simp) fun i h1 h2=> ?_
 simp[byteV,Value.cells,Nat.mod_one]
theorem mk_by (w:World)(n:Nat)(hn:n≤1000000):(Instr.makeSlice 151 (.int .i64 (n:Int)) (.int .i64 (n:Int))).run Tryz.prog w= .ok (.slice (some ⟨w.heap.size,0,none⟩) n n) (w.alloc (.cells (byC (List.replicate n 0)) 5)):=by
 obtain⟨i0,hi,hz0,hz1,hz2⟩:=info_parts infoByte;have:=run_makeSlice (P:=Tryz.prog) w 151 5 i0 (.int .u8 0) undBytes hi hz0 .i64 .i64 n n (by omega) (Int.le_refl _) (by rw[hz1];omega) (by rw[hz2];omega) (by omega);rw[hz1,Nat.mul_one,Int.toNat_natCast,made_by]at this;exact this
theorem lies_by {w:World}{b:Nat}{l:List UInt8}(h:Row w b 5 (byC l)):Lies w w.heap.size (some ⟨b,0,none⟩) (l.map byteV):=fun _=>by
 refine⟨b,0,rfl,h.lt,fun i u hu=> ?_⟩;rw[Nat.zero_add,h.cell,←hu];unfold byC;rw[zga]
theorem str_cut (l:List UInt8)(a e:Nat):(⟨l.toArray⟩:ByteArray).extract a e=⟨((l.drop a).take (e - a)).toArray⟩:=by
 apply ByteArray.ext;rw[ByteArray.data_extract];apply Array.ext';simp
theorem str_get {s:List UInt8}{S:ByteArray}(hS:(⟨s.toArray⟩:ByteArray)=S){i:Nat}(hi:i < s.length)(h:i < S.size):S[i]'h=s[i]:=by
 subst hS;rfl
/-- A text as bytes: a new block. -/
theorem conv_by (w:World)(l:List UInt8):∃cap w',(convert 9 151 (.string ⟨l.toArray⟩)).run Tryz.prog w= .ok (.slice (some ⟨w.heap.size,0,none⟩) l.length cap) w' ∧Keeps w w' []∧∀(j:Nat) (h:j < l.length),w'.cell? ⟨w.heap.size,j,none⟩=some (byteV l[j])∧w.heap.size < w'.heap.size:=by
 refine⟨_,_,Lib.run_convert_string_bytes w _ _ _ ⟨l.toArray⟩ undString undBytes undByte,⟨rfl,rfl,rfl,by rw[Lib.bytesWorld_size];omega,fun k hk _=>Lib.bytesWorld_at_old w _ _ k hk⟩,fun j h=>⟨?_,by rw[Lib.bytesWorld_size];omega⟩⟩;rw[Lib.bytesWorld_cell w 5 ⟨l.toArray⟩ j (show j < l.length from h)];simp[byteV,List.getD_eq_getElem?_getD,List.getElem?_eq_getElem h]
def TruePost (w:World)(B:Bool)(e:Ending)(w' :World):Prop:=e= .returned (.bool B)∧Keeps w w' []
end Go.Proofs.YtoadlafdeoklbaaGreatDoor
