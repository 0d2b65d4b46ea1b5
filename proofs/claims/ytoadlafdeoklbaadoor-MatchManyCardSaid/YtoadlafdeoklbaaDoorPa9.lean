/- Words for rows of elements of many cells. All blocks of cells but one are as they were. -/
import Derived.Test.YtoadlafdeoklbaaDoorPa0

namespace Go.Proofs.YtoadlafdeoklbaaDoor
open Go.RowKit

section
variable {w w' :World} {base base' size n c:Nat} {e:TypeId} {v:Value} {xs:List Value} {S:List Nat} {A:Option Addr}
theorem ownN_slice (h:w.ownsRow base e size v n xs):∃A c,v= .slice A n c∧n≤c∧c≤maxLen:=by
 rcases h.2 with⟨rfl,rfl⟩ | ⟨g,cap,cur,rfl,_,_,hnc,hcm,_⟩
 ·exact⟨none,0,rfl,Nat.le_refl _,by simp[maxLen]⟩
 ·exact⟨_,cap,rfl,hnc,hcm⟩
theorem ownN_keep (h:w.ownsRow base e size v n xs)(hk:Keeps w w' S)(hs:∀g,v.ownBlock=some g→g∉S):w'.ownsRow base e size v n xs:=by
 obtain⟨h1,h2⟩:=h;refine⟨h1, ?_⟩
 rcases h2 with h2 | ⟨g,cap,cur,hv,hg,hh,r⟩
 ·exact .inl h2
 ·subst hv
  have hlt:g < w.heap.size:=(Array.getElem?_eq_some_iff.1 hh).1;exact .inr ⟨g,cap,cur,rfl,hg,(hk.block g hlt (hs g rfl)).trans hh,r⟩
theorem ownN_row (h:w.ownsRow base e size v n xs):∀g,v.ownBlock=some g→base≤g∧∃cs,Row w g e cs:=fun g hg=>by
 rcases h.2 with⟨rfl,_⟩ | ⟨gb,cap,cur,rfl,e2,hh,_⟩
 ·simp[Value.ownBlock]at hg
 ·obtain rfl:gb=g:=by simpa [Value.ownBlock]using hg
  exact⟨e2,cur,hh⟩
end
section
variable {P:Program} (w:World)
/-- append onto a row of the call's own (or onto nil), the source nil, empty or not. -/
theorem run_append_liesN (base:Nat)(t ty e:TypeId)(i:TypeInfo)(z:Value)(size bytes:Nat)(ht:P.underlying t=some (.slice e))(hi:P.info? e=some i)(hz:i.zero=some z)
  (hsize:i.size=size) (hby:i.bytes=bytes) (hzs:z.cells.size=size) (hsz:0 < size)
  (v:Value) (n:Nat) (xs:List Value) (hown:w.ownsRow base e size v n xs)
  (B:Nat) (A:Option Addr) (m c:Nat) (news:List Value) (hm:news.length=m*size) (hr:Lies w B A news) (h1:∀u∈news,u.oneCell' =true)
  (h63:n+m≤maxLen) (hbytes:(n+m)*bytes≤140737488355328) (hbase:base≤w.heap.size):
  ∃v' w',(Builtin.append_ #[t,t] ty #[v,.slice A m c]).run P w= .ok v' w' ∧w'.ownsRow base e size v' (n+m) (xs++news)∧w.grownBy w' v.ownBlock∧
   (v'.ownBlock=v.ownBlock∨v'.ownBlock=some w.heap.size):=by
 have nothing:m=0→A=none→∃v' w',(Builtin.append_ #[t,t] ty #[v,.slice A m c]).run P w= .ok v' w' ∧w'.ownsRow base e size v' (n+m) (xs++news)∧w.grownBy w' v.ownBlock∧
   (v'.ownBlock=v.ownBlock∨v'.ownBlock=some w.heap.size):=by
  rintro rfl rfl;have hn:news= []:=List.eq_nil_of_length_eq_zero (by rw[hm,Nat.zero_mul]);subst hn;refine⟨v,w, ?_,by simpa using hown,⟨rfl,rfl,rfl,Nat.le_refl _,fun _ _ _=>rfl⟩,.inl rfl⟩
  rcases hown.2 with⟨rfl,rfl⟩ | ⟨g,cap,cur,rfl,_,_,hnc,_⟩
  ·simp[Builtin.append_,run_underlying ht,sizeOf,typeInfo,hi,Builtin.lenOf,Builtin.firstCells]
  ·simp[Builtin.append_,run_underlying ht,sizeOf,typeInfo,hi,Builtin.lenOf,Builtin.firstCells,hnc,storeCells]
 rcases Nat.eq_zero_or_pos m with h0 | h0
 ·rcases A with _ | ad
  ·exact nothing h0 rfl
  ·have hn:news= []:=List.eq_nil_of_length_eq_zero (by rw[hm,h0,Nat.zero_mul])
   subst hn;obtain⟨v',w',hrun,h2,h3,_,h5⟩:=run_append_own_at (P:=P) w base t ty e i z size bytes ht hi hz hsize hby hzs hsz v n xs hown ad m c [] hm (fun j u hu=>by simp at hu) h1 h63 hbytes hbase;exact⟨v',w',hrun,h2,h3,h5⟩
 ·obtain⟨b,o,rfl,_,hc⟩:=hr (by rw[hm];exact Nat.mul_pos h0 hsz)
  obtain⟨v',w',hrun,h2,h3,_,h5⟩:=run_append_own_at (P:=P) w base t ty e i z size bytes ht hi hz hsize hby hzs hsz v n xs hown ⟨b,o,none⟩ m c news hm
   (fun j u hu=>by
    rw[←hc j u hu];unfold Addr.add
    split
    ·rename_i h0;subst h0;rfl
    ·rfl) h1 h63 hbytes hbase
  exact⟨v',w',hrun,h2,h3,h5⟩
end
section
variable {P:Program} {w:World}
end

/-- All blocks of cells but s are as they were. -/
def Apart (w w' :World)(s:Nat):Prop:=∃m,(∀t cs,¬Row w m t cs)∧Keeps w w' [s,m]
/-- All blocks of cells but s are as they were (this can be chained). -/
structure RowsBut (s:Nat)(w w' :World):Prop where
 size:w.heap.size≤w'.heap.size
 row:∀{b:Nat} {t:TypeId} {cs:Array Value},b≠s→Row w b t cs→Row w' b t cs
section
variable {w w' w'' :World} {s:Nat}
end
end Go.Proofs.YtoadlafdeoklbaaDoor
