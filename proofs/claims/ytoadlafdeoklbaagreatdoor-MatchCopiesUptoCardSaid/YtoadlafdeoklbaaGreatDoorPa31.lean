/- Law 14: known. Lists that may only be read, in blocks of whatever type. -/
import Derived.Test.YtoadlafdeoklbaaGreatDoorPa30
import Derived.Test.YtoadlafdeoklbaaGreatDoorPa7

namespace Go.Proofs.YtoadlafdeoklbaaGreatDoor
open Go.RowKit Go.Maps Go.Shelf

theorem own_at {α:Type}{f:α→List Value}{w:World}{B:Nat}{e:TypeId}{k:Nat}{v:Value}{l:List α}(E:Enc k f)(h:OwnN w B e k f v l):∃A c,v= .slice A l.length c∧ListAt w e k f A l:=by
 obtain⟨A,c,rfl⟩:=OwnN.slice h;exact⟨A,c,rfl,h.at_ E⟩
set_option maxRecDepth 100000 in
set_option maxHeartbeats 4000000 in
theorem known14_any (w:World)(hm:MaxL w):Calls Tryz.prog 10 #[] w (TruePost w true):=by
 have HM:=zh hm;clear hm
 go_enter Tryz.func10,Tryz.ntmps10
 go_wp2_with fail
 refine(mtNew_in w w (Keeps.refl _ _)).mono ?_;rintro e w1 ⟨d,rfl,hb,_⟩;have H1:=zh ((hb.set HM.out k1 (by decide) (by decide)));rw[k14s1]at H1;clear hb
 go_wp2_with fail
 refine H1.out.mono ?_;rintro e w2 ⟨rfl,hb,_⟩;have H2:=zh ((hb.set HM.out k2 (by decide) (by decide)));rw[k14s2]at H2;clear hb H1
 go_wp2_with fail
 refine H2.out.mono ?_;rintro e w3 ⟨rfl,hb,_⟩;have H3:=zh ((hb.set HM.out k3 (by decide) (by decide)));rw[k14s3]at H3;clear hb H2
 go_wp2_with fail
 refine H3.out.mono ?_;rintro e w4 ⟨rfl,hb,_⟩;have HB:=zh hb;have H4:=zh (hb.meets HM.out [97,47,98] (by decide));clear hb H3
 go_wp2_with fail
 refine H4.out.mono ?_;rintro e w5 ⟨hk,v,rfl,ho⟩;rw[k14n,if_pos rfl,k14t]at ho;rw[k14n,if_pos rfl];have HB5:=zh (HB.out.keeps hk);have HO:=zh ho;obtain⟨A,c,rfl,hl⟩:=own_at encTd ho;have HLS:=zh hl;have H5:=zh HB5.out.nodes;rw[k14m.1]at H5;clear hk ho hl HB H4
 go_wp2_with fail
 refine H5.out.mono ?_;rintro e w6 ⟨rfl,hk⟩;have HB6:=zh (HB5.out.keeps hk);have HK6:=zh hk;have H6:=zh (HB6.out.drop HM.out [97,47,35] [120] (by decide) (by decide));rw[k14d]at H6;clear hk H5
 go_wp2_with fail
 refine H6.out.mono ?_;rintro e w7 ⟨rfl,hb,hel⟩;have HB7:=zh hb;have HL7:=zh (hel.list (HLS.out.keeps HK6.out) (by decide) (by decide));clear hb hel H6
 go_wp2_with (go_at_call 16;refine Hid.out ?_)
 refine zh ?_;have hl2:ListAt (w7.alloc (.cells #[.string {data:= #[120]},.int .i64 2,.string {data:= #[121]},.int .i64 0] 42)) 42 2 tdC (some ⟨w7.heap.size,0,none⟩) [([120],2),([121],0)]:=fun _=>⟨_,0,_,rfl,Row.new _ _ _,fun i h j hj=>by
  obtain rfl | rfl:i=0∨i=1:=by simp at h;omega
  ·obtain rfl | rfl:j=0∨j=1:=by omega
   ·rfl
   ·rfl
  ·obtain rfl | rfl:j=0∨j=1:=by omega
   ·rfl
   ·rfl⟩
 refine(mtSameTold_any _ A (some ⟨w7.heap.size,0,none⟩) c 2 [([120],2),([121],0)] [([120],2),([121],0)] (HL7.out.keeps (Keeps.alloc _ _)) hl2 (by decide)).mono ?_;rintro e w8 ⟨rfl,hk⟩;have HB8:=zh ((HB7.out.keeps (Keeps.alloc _ _)).keeps hk);have H8:=zh HB8.out.nodes;rw[k14m.2]at H8;clear hk hl2
 go_wp2_with fail
 refine H8.out.mono ?_;rintro e w9 ⟨rfl,hk⟩;have HB9:=zh (HB8.out.keeps hk);clear hk H8
 go_wp2_with fail
 refine HB9.out.len.mono ?_;rintro e w10 ⟨rfl,rfl⟩
 go_wp2_with fail
 go_ret;exact⟨rfl,HB9.out.k⟩
end Go.Proofs.YtoadlafdeoklbaaGreatDoor

namespace Go.Proofs.YtoadlafdeoklbaaGreatDoor
open Go.RowKit

/-- A block of cells, of whatever type. -/
def Blk (w:World)(b:Nat)(cs:Array Value):Prop:=∃t fr,w.heap[b]? =some (.cells cs t fr)
theorem Blk.lt {w:World}{b:Nat}{cs:Array Value}(h:Blk w b cs):b < w.heap.size:=by
 obtain⟨t,fr,h⟩:=h
 rcases Nat.lt_or_ge b w.heap.size with hlt | hge
 ·exact hlt
 ·rw[Array.getElem?_eq_none hge]at h;cases h
theorem Blk.keeps {w w' :World}{b:Nat}{cs:Array Value}(h:Blk w b cs)(hk:Keeps w w' []):Blk w' b cs:=by
 have hb:=h.lt;obtain⟨t,fr,h⟩:=h;exact⟨t,fr,(hk.block b hb (by simp)).trans h⟩
theorem Blk.cell {w:World}{b:Nat}{cs:Array Value}(h:Blk w b cs)(i:Nat):w.cell? ⟨b,i,none⟩=cs[i]? :=by
 obtain⟨t,fr,h⟩:=h;exact cell_of_row w b i cs t fr h
theorem Row.blk {w:World}{b:Nat}{t:TypeId}{cs:Array Value}(h:Row w b t cs):Blk w b cs:=⟨t,_,h⟩
/-- A list that may only be read. -/
def ListG {α:Type}(w:World)(k:Nat)(f:α→List Value)(A:Option Addr)(l:List α):Prop:=
 0 < l.length→∃b o cs,A=some ⟨b,o,none⟩∧Blk w b cs∧∀i (h:i < l.length) j,j < k→cs[o+i*k+j]? =(f l[i])[j]?
section
variable {α:Type} {w w' :World} {k:Nat} {f:α→List Value} {A:Option Addr} {l:List α}
theorem ListAt.g {e:TypeId}(h:ListAt w e k f A l):ListG w k f A l:=fun hp=>by
 obtain⟨b,o,cs,ea,hr,hc⟩:=h hp;exact⟨b,o,cs,ea,hr.blk,hc⟩
theorem ListG.keeps (h:ListG w k f A l)(hk:Keeps w w' []):ListG w' k f A l:=fun hp=>by
 obtain⟨b,o,cs,ea,hr,hc⟩:=h hp;exact⟨b,o,cs,ea,hr.keeps hk,hc⟩
theorem ListG.nil (w:World)(k:Nat)(f:α→List Value)(A:Option Addr):ListG w k f A []:=fun h=>absurd h (by simp)
end
end Go.Proofs.YtoadlafdeoklbaaGreatDoor
