/- The reference of packets: a connect read. -/
import Derived.Test.YtahbikfbjenfpaaGreatDoorPa18
import Derived.Test.YtahbikfbjenfpaaGreatDoorPa53
import Derived.Test.YtahbikfbjenfpaaGreatDoorPa47
set_option maxHeartbeats 4000000
set_option maxRecDepth 100000
namespace Go.Proofs.YtahbikfbjenfpaaGreatDoor
open Tryz Go.RowKit

theorem Gx {l:aG}(h:10<=l.length):mc l=if l.take 7= [0,4,77,81,84,84,4]then(cJ (tA l[7].toNat) (l.drop 10)).bind λL=>some (ox l[7].toNat (256*(l[8].toNat:Int)+(l[9].toNat:Int)) L)else none:=by
 rcases l with _ | ⟨a0,_ | ⟨a1,_ | ⟨a2,_ | ⟨a3,_ | ⟨a4,_ | ⟨a5,_ | ⟨a6,_ | ⟨f,_ | ⟨k1,_ | ⟨k2,r⟩⟩⟩⟩⟩⟩⟩⟩⟩⟩
 all_goals first | (exfalso;simp at h;done) | rfl
theorem Az {l:aG}(h:l.length < 10):mc l=none:=by
 rcases l with _ | ⟨a0,_ | ⟨a1,_ | ⟨a2,_ | ⟨a3,_ | ⟨a4,_ | ⟨a5,_ | ⟨a6,_ | ⟨f,_ | ⟨k1,_ | ⟨k2,r⟩⟩⟩⟩⟩⟩⟩⟩⟩⟩
 all_goals first | rfl | (exfalso;simp at h;omega)
section
variable {P:Program} {w0:au} {ops:Array Oper} {a0:Act} {Q:List fQ->Prop} {o:Oper} {rest:List Oper} {env:List fQ}
/-- A call of whose answer something is known, its part of the kernel filled in. -/
theorem lcs (f:FuncId)(args:Array Value)(φ:Value->au->Prop)(hc:∀W,ax w0 W->Calls P f args W λe w' =>∃v,e= .returned v/\ae W w' []/\φ v w')(hk:ba P ax w0 ops a0 Q rest (af o.dst none [] (λ_=>φ) env))
  (hw:∀vals:Tmp->Value,Region.wanted o (yielded ops (fill vals env a0).tmps)=true:=by intro _;kernel_rfl) (he:∀(W:au) (vals:Tmp->Value),(execOp (fill vals env a0).eval o).run P W= .ok (.enter f args) W:=by intro _ _;kernel_rfl):ba P ax w0 ops a0 Q (o::rest) env:=
 bH φ (λW vals hW _ _ hφ=>⟨by rw[aE (hw vals),he];exact wV hφ (hc W hW)⟩) hk
end
theorem Kb:∀f:Fin 256,((IntKind.i64.wrap (((f.val:Nat):Int).tdiv 128)).tmod 2==1)=aH f.val 128/\((IntKind.i64.wrap (((f.val:Nat):Int).tdiv 64)).tmod 2==1)=aH f.val 64/\((IntKind.i64.wrap (((f.val:Nat):Int).tdiv 4)).tmod 2==1)=aH f.val 4/\
  ((IntKind.i64.wrap (((f.val:Nat):Int).tdiv 2)).tmod 2==1)=aH f.val 2/\((IntKind.i64.wrap (((f.val:Nat):Int).tdiv 32)).tmod 2==1)=aH f.val 32/\(IntKind.i64.wrap (((f.val:Nat):Int).tdiv 8)).tmod 4=((f.val / 8 % 4:Nat):Int)/\cM (nU f.val)<=255/\((wrap64 (((f.val:Nat):Int) / 32)).tmod 2==1)=aH f.val 32/\(wrap64 (((f.val:Nat):Int) / 8)).tmod 4=((f.val / 8 % 4:Nat):Int):=by decide+kernel
/-- An empty packet. -/
abbrev cT:Array Value:=eM
/-- A packet's box and a truth as two results. -/
theorem bV {f:Func}{t:Array Value}{w:au}{s k:Nat}{g:Nat}{cs:Array Value}(hf:f.results= #[.cell s 29,.tmp k])(ht:t.getD s undef= .pointer (some ⟨g,0,none⟩))(hr:Row w g 29 cs)(hs:cs.size=24):
  (results f t).run prog w= .ok (.tuple #[.agg cs,t.getD k undef]) w:=by
 have h:=run_loadVar_mid (P:=prog) w g 0 29 cs.toList _ (aD hr) underlying29 rfl (by rw[xG,hs];kernel_rfl);rw[ou]at ht;simp[results,hf,ht,h,asAddr]
theorem BR (b o k:Nat):(⟨b,o,none⟩:Addr).add k=⟨b,o+k,none⟩:=by
 unfold Addr.add
 split <;> simp_all
theorem tK:Tryz.prog.underlying 27=some (.slice (Tryz.prog.elem 27)):=by kernel_rfl
theorem Ap:∀W,(sizeOf (Tryz.prog.elem 27)).run prog W= .ok 1 W:=λW=>by kernel_rfl
section
variable {e:Operand->Value} {o:Oper} {W:au} {x i lo:Operand} {a:Option Addr} {b ol n k len cap l:Nat} {c:Nat} {kl:IntKind}
theorem m_ (ho:o.op= .indexAddr 27 x i)(hx:e x= .slice (some ⟨b,ol,none⟩) n c)(hi:e i= .int kl (k:Nat))(hk:k < n):
  (execOp e o).run prog W= .ok (.value (.pointer (some ⟨b,ol+k,none⟩))) W:=by
 have hs:=run_indexAt_slice (P:=prog) W 27 ⟨b,ol,none⟩ n c kl (k:Int) tK;rw[aE ⟨by omega,by omega⟩,Ap]at hs;unfold execOp;simp only[ho,hx,hi,fo,hs,fk,gq,fT,iO,BR]
theorem pK (ho:o.op= .slice 27 x (some lo) none none)(hx:e x= .slice a len cap)(h1:e lo= .int kl (l:Nat))(hl:l<=len):
  (execOp e o).run prog W= .ok (.value (.slice (if cap=l then a else a.map (·.add l)) (len - l) (cap - l))) W:=by
 have hs:=run_slice_l (P:=prog) W 27 a len cap tK kl (l:Int) (by omega) (by omega);rw[<-run_sliceAt_slice W _ _ _ _ _ tK,Ap]at hs;unfold execOp;simp only[ho,hx,h1,tg,Option.map_none,fo,hs,fk,gq,sliced,fT,iO]
end
theorem bw.drop {w:au}{A:Option Addr}{c:Nat}{l:List aG}(h:bw w 9 1 fC A l)(hc:l.length<=c){k:Nat}:bw w 9 1 fC (if c=k then A else A.map (·.add k)) (l.drop k):=λhp=>by
 have hk:k < l.length:=by rw[dQ]at hp;omega
 obtain⟨b,o,cs,rfl,hr,hcs⟩:=h (by omega);rw[aj (by omega)];refine⟨b,o+k,cs,by rw[tg,BR],hr,λi hi j hj=> ?_⟩;rw[dQ]at hi;have:=hcs (k+i) (by omega) j hj;rw[List.getElem_drop,<-this]
 congr 1
 omega
/-- One cell is stored. -/
theorem dY {P:Program}{ops:Array Oper}{Q:Exit->Act->au->Prop}{rest:List Oper}{op:Oper}{a:Act}{w:au}(hgd:op.guard=none)(t:TypeId)(x y:Operand)(b i:Nat)(v:Value){T:TypeId}{X:Array Value}(ho:op.op= .store t x y)(hx:a.eval x= .pointer (some ⟨b,i,none⟩))(hy:a.eval y=v)(hv:v.cells= #[v])(h1:v.oneCell' =true)(hi:(P.info? t).map (·.size)=some 1)(hr:Row w b T X)(hb:i < X.size)
  (h:∀w',Row w' b T (X.setIfInBounds i v)->ae w w' [b]->wpList P ops Q rest (a.put op.dst undef) w'):wpList P ops Q (op::rest) a w:=by
 refine tV hgd λ_ hK=> ?_
 have hrun:=ji (P:=P) w b i t v (hr.there (by rw[hv];show i+1<=_;omega)) (by rw[hv];exact hi) (by rw[hv];simp[h1]);have h2:=hr.setCells v.cells.toList i;rw[hv]at hrun h2;unfold Oper.wp execOp;simp only[ho,hx,hy,fo,hrun,fk,gq];exact hK _ _ (h _ h2 (ae.setCells _ _ _))
/-- A packet's cells. -/
structure Ke (X:Array Value):Prop where
 z:X.size=24
 one:X.all (·.oneCell')=true
theorem Ke.set {X:Array Value}(h:Ke X)(i:Nat){v:Value}(hv:v.oneCell' =true):Ke (X.setIfInBounds i v):=by
 refine⟨by rw[xj];exact h.z, ?_⟩;have h1:=h.one;rw[Array.all_eq_true]at h1 ⊢
 intro j hj;rw[Array.getElem_setIfInBounds]
 split
 ·exact hv
 ·exact h1 j (by rwa [xj]at hj)
theorem bT.put {b:Nat}{t:TypeId}{X:Array Value}{i:Nat}{v:Value}{w w' :au}(h:bT b t (X.setIfInBounds i v) w w')(h0:Row w b t X)(hd:lH b t (X.setIfInBounds i v) i 1 w'):Row w' b t (X.setIfInBounds i v):=
 h.fin h0 (by rw[xj]) λj hj=>by
  by_cases e:i=j
  ·subst e
   exact .inr ⟨i,1,bE _,by omega,hd⟩
  ·exact .inl (by rw[oJ e])
theorem bT.Qx {b:Nat}{t:TypeId}{X:Array Value}{i j:Nat}{v u:Value}{w w' :au}(h:bT b t ((X.setIfInBounds i v).setIfInBounds j u) w w')(h0:Row w b t X)(h1:lH b t ((X.setIfInBounds i v).setIfInBounds j u) i 1 w')(h2:lH b t ((X.setIfInBounds i v).setIfInBounds j u) j 1 w'):Row w' b t ((X.setIfInBounds i v).setIfInBounds j u):=
 h.fin h0 (by rw[xj,xj]) λk hk=>by
  by_cases e:i=k
  ·subst e
   exact .inr ⟨i,1,bE _,by omega,h1⟩
  ·by_cases e2:j=k
   ·subst e2
    exact .inr ⟨j,1,bE _,by omega,h2⟩
   ·exact .inl (by rw[oJ e2,oJ e])
theorem Qv {X:Array Value}{i j:Nat}{v u:Value}(hi:i < X.size)(hne:j≠i)(hv:v.cells= #[v]):∀k,k < v.cells.size->((X.setIfInBounds i v).setIfInBounds j u)[i+k]? =v.cells[k]? :=oG (by rw[oJ hne,Array.getElem?_setIfInBounds_self,aE hi]) hv
/-- The packet's cells, as far as the texts are read. -/
def w_ (f:Nat)(L1:List aG)(X:Array Value):Array Value:=if aH f 4=true then(X.setIfInBounds 11 (.string ⟨(L1.headD []).toArray⟩)).setIfInBounds 12 (.string ⟨((L1.drop 1).headD []).toArray⟩)else X
def xd (f:Nat)(L1:List aG):List aG:=if aH f 4=true then L1.drop 2 else L1
def tL (b:Bool)(i:Nat)(L:List aG)(X:Array Value):Array Value:=if b=true then X.setIfInBounds i (.string ⟨(L.headD []).toArray⟩)else X
def BI (b:Bool)(L:List aG):List aG:=if b=true then L.drop 1 else L
theorem BH (f:Nat)(L1:List aG)(X:Array Value){j:Nat}(h1:11≠j)(h2:12≠j):(w_ f L1 X)[j]? =X[j]? :=by
 unfold w_
 split
 ·rw[oJ h2,oJ h1]
 ·rfl
theorem Hs (b:Bool)(i:Nat)(L:List aG)(X:Array Value){j:Nat}(h:i≠j):(tL b i L X)[j]? =X[j]? :=by
 unfold tL
 split
 ·rw[oJ h]
 ·rfl
theorem Hu (f:Nat)(L1:List aG){n:Nat}(h:L1.length=g_ (aH f 4) 2+n):(xd f L1).length=n:=by
 unfold xd
 cases hb:aH f 4 <;> rw[hb]at h <;> simp[g_]at h ⊢ <;> omega
theorem Ht (b:Bool)(L:List aG){n:Nat}(h:L.length=g_ b 1+n):(BI b L).length=n:=by
 unfold BI
 cases b <;> simp[g_]at h ⊢ <;> omega
theorem Lh {X:Array Value}{i:Nat}{v:Value}(hi:i < X.size)(hv:v.cells= #[v]):∀j,j < v.cells.size->(X.setIfInBounds i v)[i+j]? =v.cells[j]? :=oG (by rw[Array.getElem?_setIfInBounds_self,aE hi]) hv
/-- What is known while a connect is read. -/
structure lO (w W:au)(b:Nat)(X:Array Value):Prop where
 k:ae w W []
 s:Row W w.heap.size 29 cT
 g:Row W b 29 X
 o:w.heap.size < b
 x:Ke X
section
variable {w W W' :au} {b:Nat} {X Y:Array Value}
theorem lO.keeps (h:lO w W b X)(k:ae W W' []):lO w W' b X:=⟨h.k.ah k,h.s.keeps k,h.g.keeps k,h.o,h.x⟩
theorem lO.to (h:lO w W b X)(k:ae W W' [b])(r:Row W' b 29 Y)(hx:Ke Y):lO w W' b Y:=⟨h.k.trans k (λy hy hlt=>by have:=h.o;simp at hy;omega),h.s.keep k (by have:=h.o;simp;omega),r,h.o,hx⟩
theorem lO.put (h:lO w W b X)(i:Nat)(v:Value)(hv:v.oneCell' =true):lO w (W.setCell ⟨b,i,none⟩ v) b (X.setIfInBounds i v):=h.to (ae.setCell _ _ _) (h.g.store i v) (h.x.set i hv)
end
theorem iJ {w:au}{x y:Nat}{t1 t2:TypeId}{c1 c2:Array Value}(h1:Row w x t1 c1)(h2:Row w y t2 c2)(ht:t1≠t2):x≠y:=by
 rintro rfl;unfold Row at h1 h2;rw[h1]at h2;injection h2 with h2
 injection h2 with _ h2
 exact ht h2
/-- A list of texts and the slot that names it. -/
structure PF (W:au)(v:Value)(L:List aG):Prop where
 e:∃A c,v= .slice A L.length c/\L.length<=c/\bw W 9 1 fC A L
theorem Hr (f:Nat)(kp:Int)(s0:aG)(L1:List aG):Value.agg (tL (aH f 64) 18 (BI (aH f 128) (xd f L1)) (tL (aH f 128) 17 (xd f L1) (w_ f L1 (((j_ 0 [] (aH f 2) kp (aH f 4) [] [] (f / 8 % 4:Nat) (aH f 32) (aH f 128) (aH f 64) [] []):Array Value).setIfInBounds 7 (.string ⟨s0.toArray⟩)))))=eO (ox f kp (s0::L1)) aN aN aN:=by
 unfold tL BI w_ xd ox nU
 generalize aH f 4=b4
 generalize aH f 128=b7
 generalize aH f 64=b6
 cases b4 <;> cases b7 <;> cases b6 <;> rfl
/-- What connected answers. -/
def IQ (w:au)(l:aG)(e:Ending)(w' :au):Prop:=ae w w' []/\match mc l with
 | none=>∃X:Array Value,X.size=24/\X.all (·.oneCell')=true/\e= .returned (.tuple #[.agg X,.bool false])
 | some p=>e= .returned (.tuple #[eO p aN aN aN,.bool true])
theorem AE (w:au)(A:Option Addr)(c:Nat)(l:aG)(h:lL w w.heap.size A c l)(hl:l.length<=100000):Calls prog 42 #[.slice A l.length c] w (IQ w l):=by
 obtain⟨W0,aV⟩:∃W0,w.alloc (.cells cT 29)=W0:=⟨_,rfl⟩;have HK:=zh (show ae w W0 []by rw[<-aV];exact ae.alloc _ _);have fw:=zh (show Row W0 w.heap.size 29 cT by rw[<-aV];exact Row.new _ _ _);have HB:=zh (h.keeps HK.o);have HH:=zh h
 by_cases h10:l.length < 10
 ·have d1:decide ((l.length:Int) < 10)=true:=bz (by omega)
  have HN:=zh (Az h10);clear h h10 hl
  go_enter func42,ntmps42
  go_upto_region 1 with fail
  try rw[aV]
  clear aV
  go_wp2_with (refine wpList_store_row rfl (.tmp 2) (.tmp 17) 29 rfl w.heap.size cT cT fw.o (by kernel_rfl) rfl (by simp[Value.oneCell']) rfl rfl ?_;intro va ra ka;refine Hid.o ?_)
  refine zh ?_;have HE:=zh (And.intro ra (HK.o.trans ka (λy hy hlt=>by simp at hy;omega)));clear ra ka
  go_wp2_with fail
  refine bD (bV rfl rfl HE.o.1 rfl) rfl ⟨HE.o.2, ?_⟩;rw[HN.o];exact⟨cT,rfl,by simp[Value.oneCell'],rfl⟩
 ·have OE :10<=l.length:=by omega
  have d1:decide ((l.length:Int) < 10)=false:=aZ (by omega);have HN:=zh (Gx OE);have b7:=eW l (k:=7) (by omega);have b8:=eW l (k:=8) (by omega);have b9:=eW l (k:=9) (by omega);obtain⟨g,o,rfl,_,m7⟩:=HB.o.lies.at_ (k:=7) (by simp;omega);obtain⟨g',o',e',_,m8⟩:=HB.o.lies.at_ (k:=8) (by simp;omega);injection e' with e'
  injection e' with e1 e2
  subst e1 e2;obtain⟨g',o',e',_,m9⟩:=HB.o.lies.at_ (k:=9) (by simp;omega);injection e' with e'
  injection e' with e1 e2
  subst e1 e2;rw[b7]at m7;rw[b8]at m8;rw[b9]at m9;have Nz:=dO W0 W0.heap.size (some ⟨g,o,none⟩) c (l.take 7) (by rw[List.map_take];exact HB.o.lies.take 7);rw[dq,Nat.min_eq_left (by omega)]at Nz;have hcc:10<=c:=by have:=h.le;omega
  have hcm:c<=9223372036854775807:=by have:=h.cm;simpa [maxLen]using this
  clear b7 b8 b9 h
  by_cases h7:l.take 7= [0,4,77,81,84,84,4]
  ·have sZ:(l.take 7== [0,4,77,81,84,84,4])=true:=by simpa using h7
   rw[h7]at Nz
   go_enter func42,ntmps42
   go_upto_region 1 with fail
   try rw[aV]
   clear aV;have HF:=zh (l[7].toNat_lt);have kU:=zh (l[8].toNat_lt);have lN:=zh (l[9].toNat_lt)
   generalize l[7].toNat=f at*
   generalize l[8].toNat=k1 at*
   generalize l[9].toNat=k2 at*
   have HQ:=zh (Kb ⟨f,HF.o⟩);simp only at HQ;have sf:wrap64 (f:Int)=(f:Int):=by have:=HF.o;unfold wrap64;omega
   have Ue:IntKind.i64.wrap (f:Int)=(f:Int):=by have:=HF.o;exact IntWalk.i64_in _ ⟨by omega,by omega⟩
   have s1:IntKind.i64.wrap (k1:Int)=(k1:Int):=by have:=kU.o;exact IntWalk.i64_in _ ⟨by omega,by omega⟩
   have s2:IntKind.i64.wrap (k2:Int)=(k2:Int):=by have:=lN.o;exact IntWalk.i64_in _ ⟨by omega,by omega⟩
   have s3:IntKind.i64.wrap (256*(k1:Int))=256*(k1:Int):=by have:=kU.o;exact IntWalk.i64_in _ ⟨by omega,by omega⟩
   obtain⟨kp,hkp⟩:∃kp:Int,((256:Nat):Int)*(k1:Int)+(k2:Int)=kp:=⟨_,rfl⟩;have s4:IntKind.i64.wrap (256*(k1:Int)+(k2:Int))=kp:=by have:=kU.o;have:=lN.o;rw[IntWalk.i64_in _ ⟨by omega,by omega⟩];omega
   rw[hkp]at HN;have HS:=zh (And.intro s1 (And.intro s2 (And.intro s3 s4)));clear s1 s2 s3 s4 hkp;have M9:=λ(W' :au) (hW:ae W0 W' [])=>((hW.cell (p:=⟨g,o+9,none⟩) (by assumption) (by simp))).trans m9
   have M8:=λ(W' :au) (hW:ae W0 W' [])=>((hW.cell (p:=⟨g,o+8,none⟩) (by assumption) (by simp))).trans m8
   go_upto_region 4 with fail
   clear sf Ue;refine cE ax _ 28 (by kernel_rfl) rfl (by kernel_rfl) (λ_=>ae.refl _ _) (λ_ _ _ h k=>h.trans k (by simp)) (ae.drew _) ?_;simp only[dc,dg,dF,dK];refine lq (.int .i64 (f:Int)) ?_;refine lq (.int .i64 (IntKind.i64.wrap ((f:Int).tdiv 128))) ?_;refine lq (.int .i64 ((IntKind.i64.wrap ((f:Int).tdiv 128)).tmod 2)) ?_;refine aK (.bool (aH f 128)) (λ_=>by kernel_rfl) (λW _=>(show _=Result.ok (Next.value (.bool ((IntKind.i64.wrap ((f:Int).tdiv 128)).tmod 2==1))) W by kernel_rfl).trans (by rw[HQ.o.1])) ?_;refine lq (.int .i64 (f:Int)) ?_;refine lq (.int .i64 (IntKind.i64.wrap ((f:Int).tdiv 64))) ?_;refine lq (.int .i64 ((IntKind.i64.wrap ((f:Int).tdiv 64)).tmod 2)) ?_;refine aK (.bool (aH f 64)) (λ_=>by kernel_rfl) (λW _=>(show _=Result.ok (Next.value (.bool ((IntKind.i64.wrap ((f:Int).tdiv 64)).tmod 2==1))) W by kernel_rfl).trans (by rw[HQ.o.2.1])) ?_;refine lq (.int .i64 (f:Int)) ?_;refine lq (.int .i64 (IntKind.i64.wrap ((f:Int).tdiv 4))) ?_;refine lq (.int .i64 ((IntKind.i64.wrap ((f:Int).tdiv 4)).tmod 2)) ?_;refine aK (.bool (aH f 4)) (λ_=>by kernel_rfl) (λW _=>(show _=Result.ok (Next.value (.bool ((IntKind.i64.wrap ((f:Int).tdiv 4)).tmod 2==1))) W by kernel_rfl).trans (by rw[HQ.o.2.2.1])) ?_;refine lq (.int .i64 (f:Int)) ?_;refine lq (.int .i64 (IntKind.i64.wrap ((f:Int).tdiv 2))) ?_;refine lq (.int .i64 ((IntKind.i64.wrap ((f:Int).tdiv 2)).tmod 2)) ?_;refine aK (.bool (aH f 2)) (λ_=>by kernel_rfl) (λW _=>(show _=Result.ok (Next.value (.bool ((IntKind.i64.wrap ((f:Int).tdiv 2)).tmod 2==1))) W by kernel_rfl).trans (by rw[HQ.o.2.2.2.1])) ?_;refine lq (.slice (some ⟨g,o,none⟩) l.length c) ?_;simp only[af];apply ak
   ·intro W vals hW ag
    simp only[knows]at ag
    try simp only[ai]at ag
    clear ag;have m:(8:Int) < (l.length:Int):=by omega
    refine⟨?_⟩;simp only[fill];go_simp
    first | exact⟨ae.refl _ _,rfl⟩ | exact⟨ae.alloc _ _,rfl⟩
   simp only[af];refine ll 5 (.tmp 39) (⟨g,o+8,none⟩) (.int .u8 (k1:Int)) (λW hW=>M8 W hW) ?_;refine aK (.int .i64 (k1:Int)) (λ_=>by kernel_rfl) (λW _=>(show _=Result.ok (Next.value (.int .i64 (IntKind.i64.wrap (k1:Int)))) W by kernel_rfl).trans (by rw[HS.o.1])) ?_;refine aK (.int .i64 (256*(k1:Int))) (λ_=>by kernel_rfl) (λW _=>(show _=Result.ok (Next.value (.int .i64 (IntKind.i64.wrap (256*(k1:Int))))) W by kernel_rfl).trans (by rw[HS.o.2.2.1])) ?_;refine lq (.slice (some ⟨g,o,none⟩) l.length c) ?_;simp only[af];apply ak
   ·intro W vals hW ag
    simp only[knows]at ag
    try simp only[ai]at ag
    clear ag;have m:(9:Int) < (l.length:Int):=by omega
    refine⟨?_⟩;simp only[fill];go_simp
    first | exact⟨ae.refl _ _,rfl⟩ | exact⟨ae.alloc _ _,rfl⟩
   simp only[af];refine ll 5 (.tmp 44) (⟨g,o+9,none⟩) (.int .u8 (k2:Int)) (λW hW=>M9 W hW) ?_;refine aK (.int .i64 (k2:Int)) (λ_=>by kernel_rfl) (λW _=>(show _=Result.ok (Next.value (.int .i64 (IntKind.i64.wrap (k2:Int)))) W by kernel_rfl).trans (by rw[HS.o.2.1])) ?_;refine aK (.int .i64 kp) (λ_=>by kernel_rfl) (λW _=>(show _=Result.ok (Next.value (.int .i64 (IntKind.i64.wrap (256*(k1:Int)+(k2:Int))))) W by kernel_rfl).trans (by rw[HS.o.2.2.2])) ?_;simp only[af];refine lq (.agg ((j_ 0 [] (aH f 2) kp (aH f 4) [] [] 0 false (aH f 128) (aH f 64) [] []))) ?_;simp only[af];refine bH (λv W' =>∃b,v= .pointer (some ⟨b,0,none⟩)/\Row W' b 29 cT/\W0.heap.size<=b) (λW vals hW ag φ' hφ=> ?_) ?_
   ·simp only[knows]at ag
    try simp only[ai]at ag
    (have hz:=hW.size;clear ag)
    refine⟨?_⟩;simp only[fill];go_simp;exact⟨ae.alloc _ _,hφ.o _ _ ⟨_,rfl,Row.new _ _ _,hz⟩⟩
   simp only[af];refine aq (λW vals hW ag=> ?_);simp only[aw]at ag
   try simp only[ai]at ag
   simp only[fill,Act.put,bo,bn,bh];obtain⟨W1,h0,h1,b,hv,hr,hb⟩:=ag;rw[hv];have HG:=zh (hr.keeps h1);have HO:=zh (show w.heap.size < b by have:=fw.o.lt;omega);have HW:=zh hW;clear h0 h1 hr hb hW hv M8 M9
   go_wp2_with (refine wpList_store_row rfl (.tmp 5) (.tmp 48) 29 rfl b ((j_ 0 [] (aH f 2) kp (aH f 4) [] [] 0 false (aH f 128) (aH f 64) [] [])) cT HG.o (by kernel_rfl) rfl (by simp[Value.oneCell']) rfl rfl ?_;intro va ra ka;refine Hid.o ?_)
   refine zh ?_;have ST:=zh (show lO w va b ((j_ 0 [] (aH f 2) kp (aH f 4) [] [] 0 false (aH f 128) (aH f 64) [] []))from⟨(HK.o.ah HW.o).trans ka (λy hy hlt=>by have:=HO.o;simp at hy;omega),(fw.o.keeps HW.o).keep ka (by have:=HO.o;simp;omega),ra,HO.o,⟨rfl,by simp[Value.oneCell']⟩⟩);clear ra ka HG HO HW HS;have f13:=ST.o.g.frozen 13;have f14:=ST.o.g.frozen 14;have g13:=ST.o.g.cell 13;have g14:=ST.o.g.cell 14;simp only[cg,bU,fe]at g13 g14
   go_upto_region 6 with fail
   rw[HQ.o.2.2.2.2.2.2.2.1,HQ.o.2.2.2.2.2.2.2.2];have uz:=zh ((ST.o.put 14 (.bool (aH f 32)) rfl).put 13 (.int .i64 (f / 8 % 4:Nat)) rfl)
   generalize (va.setCell ⟨b,14,none⟩ (.bool (aH f 32))).setCell ⟨b,13,none⟩ (.int .i64 (f / 8 % 4:Nat))=W6 at uz ⊢
   obtain⟨X6,PY⟩:∃X6:Array Value,X6=(j_ 0 [] (aH f 2) kp (aH f 4) [] [] (f / 8 % 4:Nat) (aH f 32) (aH f 128) (aH f 64) [] []):=⟨_,rfl⟩;have En:=zh (show lO w W6 b X6 from by rw[PY];exact uz.o);have Vw:=zh PY;have HC:=zh (show X6[10]? =some (.bool (aH f 4))/\X6[15]? =some (.bool (aH f 128))/\X6[16]? =some (.bool (aH f 64))from by rw[PY];exact⟨rfl,rfl,rfl⟩);clear f13 f14 g13 g14 uz PY ST;obtain⟨I_,L8⟩:∃I_,(if c=10 then some ⟨g,o,none⟩else(some (⟨g,o,none⟩:Addr)).map (·.add 10))=I_:=⟨_,rfl⟩;have PE:=zh L8;have iz:=zh (show∀W,ae W6 W []->lL W W.heap.size I_ (c - 10) (l.drop 10)from λW hW=>by rw[<-L8];exact((HH.o.keeps (En.o.k.ah hW)).drop OE).up);clear L8;obtain⟨n1,e1,g1⟩:∃n,g_ (aH f 4) 2=n/\n<=2:=⟨_,rfl,bY _ _⟩;obtain⟨n2,e2,g2⟩:∃n,g_ (aH f 128) 1=n/\n<=1:=⟨_,rfl,bY _ _⟩;obtain⟨n3,e3,g3⟩:∃n,g_ (aH f 64) 1=n/\n<=1:=⟨_,rfl,bY _ _⟩;have IG:=zh (show∀W,Calls prog 34 #[.bool (aH f 4),.int .i64 2] W λe w' =>e= .returned (.int .i64 (n1:Nat))/\ae W w' []from λW=>e1▸fX W (aH f 4) 2);have KZ:=zh (show∀W,Calls prog 34 #[.bool (aH f 128),.int .i64 1] W λe w' =>e= .returned (.int .i64 (n2:Nat))/\ae W w' []from λW=>e2▸fX W (aH f 128) 1);have TU:=zh (show∀W,Calls prog 34 #[.bool (aH f 64),.int .i64 1] W λe w' =>e= .returned (.int .i64 (n3:Nat))/\ae W w' []from λW=>e3▸fX W (aH f 64) 1);have Oj:tA f=1+n1+n2+n3:=by unfold tA;rw[e1,e2,e3]
   obtain⟨n,hn⟩:∃n,tA f=n:=⟨_,rfl⟩;have w1:IntKind.i64.wrap (1+(n1:Int))=((1+n1:Nat):Int):=by rw[IntWalk.i64_in _ ⟨by omega,by omega⟩];omega
   have w2:IntKind.i64.wrap (((1+n1:Nat):Int)+(n2:Int))=((1+n1+n2:Nat):Int):=by rw[IntWalk.i64_in _ ⟨by omega,by omega⟩];omega
   have w3:IntKind.i64.wrap (((1+n1+n2:Nat):Int)+(n3:Int))=(n:Int):=by rw[IntWalk.i64_in _ ⟨by omega,by omega⟩];omega
   have KY:=zh (And.intro w1 (And.intro w2 w3));have zS:=zh (show 1<=n/\n<=100/\n=1+n1+n2+n3 by omega);have jt:=zh (And.intro e1 (And.intro e2 e3));rw[hn,aE h7]at HN;have RQ:=zh (show∀W,ae W6 W []->Calls prog 103 #[.slice I_ (l.length - 10) (c - 10),.int .i64 (n:Nat)] W (Ii W n (l.drop 10))from λW hW=>by
    have hh:=yE W I_ (c - 10) n (l.drop 10) (iz.o W hW) zS.o.2.1
    rwa [dQ]at hh)
   clear e1 e2 e3 g1 g2 g3 w1 w2 w3 Oj hn;refine aB _ (by kernel_rfl) rfl (by kernel_rfl) ?_;refine lq (.slice (some ⟨g,o,none⟩) l.length c) ?_;refine aK (.slice I_ (l.length - 10) (c - 10)) (λ_=>by kernel_rfl) (λW vals=> ?_) ?_
   ·rw[eU (x:= .tmp 61) (lo:= .const (.int .i64 10)) (a:=some ⟨g,o,none⟩) (len:=l.length) (cap:=c) (l:=10) (kl:= .i64) rfl (by kernel_rfl) (by kernel_rfl) (by omega),PE.o]
   refine lq (.pointer (some ⟨b,10,none⟩)) ?_;refine ll 4 (.tmp 63) (⟨b,10,none⟩) (.bool (aH f 4)) (λW hW=>((En.o.g.keeps hW).cell 10).trans HC.o.1) ?_;refine aT 34 (#[.bool (aH f 4),.int .i64 2]) (.int .i64 (n1:Nat)) (λ_=>by kernel_rfl) (λ_ _=>by kernel_rfl) (λW hW=>by have hh:=IG.o W;exact hh) ?_;refine aK (.int .i64 ((1+n1:Nat):Int)) (λ_=>by kernel_rfl) (λW _=>(show _=Result.ok (Next.value (.int .i64 (IntKind.i64.wrap (1+(n1:Int))))) W by kernel_rfl).trans (by rw[KY.o.1])) ?_;refine lq (.pointer (some ⟨b,15,none⟩)) ?_;refine ll 4 (.tmp 67) (⟨b,15,none⟩) (.bool (aH f 128)) (λW hW=>((En.o.g.keeps hW).cell 15).trans HC.o.2.1) ?_;refine aT 34 (#[.bool (aH f 128),.int .i64 1]) (.int .i64 (n2:Nat)) (λ_=>by kernel_rfl) (λ_ _=>by kernel_rfl) (λW hW=>by have hh:=KZ.o W;exact hh) ?_;refine aK (.int .i64 ((1+n1+n2:Nat):Int)) (λ_=>by kernel_rfl) (λW _=>(show _=Result.ok (Next.value (.int .i64 (IntKind.i64.wrap (((1+n1:Nat):Int)+(n2:Int))))) W by kernel_rfl).trans (by rw[KY.o.2.1])) ?_;refine lq (.pointer (some ⟨b,16,none⟩)) ?_;refine ll 4 (.tmp 71) (⟨b,16,none⟩) (.bool (aH f 64)) (λW hW=>((En.o.g.keeps hW).cell 16).trans HC.o.2.2) ?_;refine aT 34 (#[.bool (aH f 64),.int .i64 1]) (.int .i64 (n3:Nat)) (λ_=>by kernel_rfl) (λ_ _=>by kernel_rfl) (λW hW=>by have hh:=TU.o W;exact hh) ?_;refine aK (.int .i64 (n:Nat)) (λ_=>by kernel_rfl) (λW _=>(show _=Result.ok (Next.value (.int .i64 (IntKind.i64.wrap (((1+n1+n2:Nat):Int)+(n3:Int))))) W by kernel_rfl).trans (by rw[KY.o.2.2])) ?_;simp only[af]
   cases hT:cJ n (l.drop 10)with
   | none=>
    have Mu:=zh (show∀W,ae W6 W []->Calls prog 103 #[.slice I_ (l.length - 10) (c - 10),.int .i64 (n:Nat)] W λe w' =>e= .returned (.tuple #[.slice none 0 0,.bool false])/\ae W w' []from λW hW=>(RQ.o W hW).mono λe w' h=>⟨by have:=h.2;rw[hT]at this;exact this,h.1⟩);have FP:=zh (show mc l=none by rw[HN.o,hT];rfl);clear hT;refine lc 103 #[.slice I_ (l.length - 10) (c - 10),.int .i64 (n:Nat)] (.tuple #[.slice none 0 0,.bool false]) (λW hW=>Mu.o W hW) ?_;refine lq (.tuple #[.slice none 0 0,.bool false]) ?_
    iterate 2
     refine lq aN ?_;refine lq (.bool false) ?_
    refine aq (λW vals hW ag=> ?_);simp only[af,aw]at ag
    try simp only[ai]at ag
    simp only[af,fill,Act.put,bo,bn,bh];clear ag;have gW:=zh (En.o.keeps hW);clear hW
    go_wp2_with (first | (refine bf (by kernel_rfl) rfl rfl gW.o.g underlying29 rfl (by rw[gW.o.x.z];kernel_rfl) ?_) | (refine wpList_store_row rfl (.tmp 2) (.tmp 80) 29 rfl w.heap.size X6 cT gW.o.s (by rw[gW.o.x.z];kernel_rfl) (by rw[gW.o.x.z];rfl) gW.o.x.one rfl rfl ?_;intro va ra ka;refine Hid.o ?_))
    refine zh ?_;have HE:=zh (And.intro ra (gW.o.k.trans ka (λy hy hlt=>by simp at hy;omega)));have uB:=zh gW.o.x;clear ra ka
    go_wp2_with fail
    refine bD (bV rfl rfl HE.o.1 uB.o.z) rfl ⟨HE.o.2, ?_⟩;rw[FP.o];exact⟨X6,uB.o.z,uB.o.one,rfl⟩
   | some L=>
    have Mu:=zh (show∀W,ae W6 W []->Calls prog 103 #[.slice I_ (l.length - 10) (c - 10),.int .i64 (n:Nat)] W λe w' =>∃v,e= .returned v/\ae W w' []/\(∃A c,v= .tuple #[.slice A L.length c,.bool true]/\L.length<=c/\bw w' 9 1 fC A L)from λW hW=>(RQ.o W hW).mono λe w' h=>by
     have h2:=h.2;rw[hT]at h2;obtain⟨A,c,rfl,h3,h4⟩:=h2;exact⟨_,rfl,h.1,A,c,rfl,h3,h4⟩)
    have FP:=zh (show mc l=some (ox f kp L)by rw[HN.o,hT];rfl);have lM:=zh (t_ _ _ _ hT);clear hT;refine lcs 103 #[.slice I_ (l.length - 10) (c - 10),.int .i64 (n:Nat)] (λv w' =>∃A c,v= .tuple #[.slice A L.length c,.bool true]/\L.length<=c/\bw w' 9 1 fC A L) (λW hW=>Mu.o W hW) ?_;simp only[af];refine bH (λv w' =>∃A c,v= .tuple #[.slice A L.length c,.bool true]/\L.length<=c/\bw w' 9 1 fC A L) (λW vals hW ag φ' hφ=> ?_) ?_
    ·simp only[knows]at ag
     try simp only[ai]at ag
     obtain⟨W1,h0,h1,A,c,hv,hc,hl⟩:=ag (by decide);refine⟨?_⟩;simp only[fill];go_simp;exact⟨ae.refl _ _,hφ.o _ _ ⟨A,c,rfl,hc,hl.keeps h1⟩⟩
    simp only[af];refine bH (λv w' =>∃A c,v= .slice A L.length c/\L.length<=c/\bw w' 9 1 fC A L) (λW vals hW ag φ' hφ=> ?_) ?_
    ·simp only[knows]at ag
     try simp only[ai]at ag
     obtain⟨⟨W1,h0,h1,A,c,hv,hc,hl⟩,-⟩:=(show _/\True from⟨ag.1 (by decide),trivial⟩);refine⟨?_⟩;simp only[fill];go_simp;exact⟨ae.refl _ _,hφ.o _ _ ⟨A,c,rfl,hc,hl.keeps h1⟩⟩
    simp only[af];apply ak
    ·intro W vals hW ag
     simp only[knows]at ag
     try simp only[ai]at ag
     obtain⟨W1,h0,h1,A,c,hv,hc,hl⟩:=ag.2.1 (by decide);refine⟨?_⟩;simp only[fill];go_simp
     first | exact⟨ae.refl _ _,rfl⟩ | exact⟨ae.alloc _ _,rfl⟩
    simp only[af];refine bH (λv w' =>∃A c,v= .slice A L.length c/\L.length<=c/\bw w' 9 1 fC A L) (λW vals hW ag φ' hφ=> ?_) ?_
    ·simp only[knows]at ag
     try simp only[ai]at ag
     obtain⟨⟨W1,h0,h1,A,c,hv,hc,hl⟩,-⟩:=(show _/\True from⟨ag.1 (by decide),trivial⟩);refine⟨?_⟩;simp only[fill];go_simp;exact⟨ae.refl _ _,hφ.o _ _ ⟨A,c,rfl,hc,hl.keeps h1⟩⟩
    simp only[af];refine ls ?_;simp only[af];refine aq (λW vals hW ag=> ?_);simp only[aw]at ag
    try simp only[ai]at ag
    simp only[fill,Act.put,bo,bn,bh];obtain⟨⟨W1,h0,h1,AL,cL,hv,S9,hl⟩,-⟩:=ag;rw[hv];have gW:=zh (En.o.keeps hW);have Es:=zh (And.intro (hl.keeps h1) S9);clear h0 h1 hv hl hW S9 Mu RQ iz IG KZ TU KY PE HB HK fw;obtain⟨s0,L1,rfl⟩:∃s0 L1,L=s0::L1:=by
     rcases L with _ | ⟨s0,L1⟩
     ·have h1:=lM.o;have h2:=zS.o.1;simp only[dR]at h1;omega
     ·exact⟨s0,L1,rfl⟩
    obtain⟨wY,hlc⟩:=Es.o;have og:=zh wY;have K4:=zh hlc;clear Es wY hlc;obtain⟨bl,ol,cs,rfl,hrl,hcl⟩:=og.o (iG _);have oe:=zh hrl;have Kl:=zh (iJ hrl gW.o.g (by decide));have MW:=zh (show cs[ol+0]? =some (Value.string ⟨s0.toArray⟩)from hcl 0 (iG _) 0 (by omega));obtain⟨A',hA'⟩:∃A',(if cL=1 then some ⟨bl,ol,none⟩else(some (⟨bl,ol,none⟩:Addr)).map (·.add 1))=A' :=⟨_,rfl⟩;have I9 :=zh hA';have nA:=zh (show∀W,ae W W []->bw W 9 1 fC (some ⟨bl,ol,none⟩) (s0::L1)->bw W 9 1 fC A' L1 from λW _ hh=>by rw[<-hA'];exact hh.drop K4.o (k:=1));clear hrl hcl hA'
    go_upto_region 9 with fail
    refine fV b 29 (X6.setIfInBounds 7 (.string ⟨s0.toArray⟩)) _ (by kernel_rfl) rfl (by kernel_rfl) ?_;refine pq (.slice (some ⟨bl,ol,none⟩) (s0::L1).length cL) ?_;refine pq (.pointer (some ⟨bl,ol+0,none⟩)) ?_ (h:=λW vals=>m_ (x:= .tmp 81) (i:= .const (.int .i64 0)) (n:=(s0::L1).length) (c:=cL) (k:=0) (kl:= .i64) rfl (by kernel_rfl) (by kernel_rfl) (iG _));refine pl 9 (.tmp 82) (.string ⟨s0.toArray⟩) Kl.o oe.o MW.o ?_;refine pq (.slice (some ⟨bl,ol,none⟩) (s0::L1).length cL) ?_;refine pq (.slice A' ((s0::L1).length - 1) (cL - 1)) ?_ (h:=λW vals=>by rw[pK (x:= .tmp 84) (lo:= .const (.int .i64 1)) (a:=some ⟨bl,ol,none⟩) (len:=(s0::L1).length) (cap:=cL) (l:=1) (kl:= .i64) rfl (by kernel_rfl) (by kernel_rfl) (iG _),I9.o]);refine pq (.pointer (some ⟨b,7,none⟩)) ?_;refine wR (i:=7) 9 (.tmp 86) (.tmp 83) (.string ⟨s0.toArray⟩) gW.o.g (Lh (by rw[gW.o.x.z];decide) rfl) (by rw[gW.o.x.z];exact fL rfl) (by simp[Value.cells,Value.oneCell']) ?_;refine pq (.slice A' ((s0::L1).length - 1) (cL - 1)) ?_;refine aq (λW9 vals hW ag=> ?_);simp only[af,aw]at ag;obtain⟨g0,_⟩:=ag;have jZ:=zh (gW.o.to hW.k (bT.put hW gW.o.g (bT.step (i:=7) (n:=1) gW.o.g g0)) (gW.o.x.set 7 rfl));have Nv:=zh (show PF W9 (.slice A' ((s0::L1).length - 1) (cL - 1)) L1 from⟨A',cL - 1,rfl,by have:=K4.o;simp at this;omega,(nA.o _ (ae.refl _ _) og.o).box hW.k gW.o.g (by decide)⟩);simp only[af,fill,Act.put,bo,bn,bh];obtain⟨v9,uo⟩:∃v9,Value.slice A' ((s0::L1).length - 1) (cL - 1)=v9:=⟨_,rfl⟩;rw[uo]at Nv ⊢
    obtain⟨X7,PX⟩:∃X7,X6.setIfInBounds 7 (.string ⟨s0.toArray⟩)=X7:=⟨_,rfl⟩;have Vv:=zh PX;have Nz:=zh (show X7[10]? =some (.bool (aH f 4))/\X7[15]? =some (.bool (aH f 128))/\X7[16]? =some (.bool (aH f 64))from by rw[<-PX,oJ (by decide),oJ (by decide),oJ (by decide)];exact HC.o);rw[PX]at jZ;clear g0 hW uo PX nA og K4 Kl oe MW I9 gW HC;have iB:=(jZ.o.g.cell 10).trans Nz.o.1
    go_upto_if 88 with fail
    go_cut [6] (λv wx=>Hid (lO w wx b (w_ f L1 X7)/\PF wx v (xd f L1)))
    case first=>
     cases h4:aH f 4 with
     | false=>
      rw[h4]at iB
      go_wp2_with fail
      go_meet
      exact zh (by unfold w_ xd;rw[h4];exact⟨jZ.o,Nv.o⟩)
     | true=>
      rw[h4]at iB;obtain⟨s1,s2,L3,Cc⟩:∃s1 s2 L3,L1=s1::s2::L3:=by
       have h1:=lM.o;have h2:=zS.o.2.2;have h3:=jt.o.1;rw[h4]at h3
       rcases L1 with _ | ⟨s1,_ | ⟨s2,L3⟩⟩
       ·exfalso;simp only[du,dR]at h1;simp[g_]at h3;omega
       ·exfalso;simp only[du,dR]at h1;simp[g_]at h3;omega
       ·exact⟨s1,s2,L3,rfl⟩
      rw[Cc]at Nv;have DV:=zh Cc;have H4:=zh h4;obtain⟨AL,cL,hv,hlc,wY⟩:=Nv.o.e;subst hv;obtain⟨bl,ol,cs,rfl,hrl,hcl⟩:=wY (iG _);have oe:=zh hrl;have Kl:=zh (iJ hrl jZ.o.g (by decide));have MW:=zh (show cs[ol+0]? =some (Value.string ⟨s1.toArray⟩)/\cs[ol+1]? =some (Value.string ⟨s2.toArray⟩)from⟨hcl 0 (iG _) 0 (by omega),hcl 1 (by simp) 0 (by omega)⟩);obtain⟨A',hA'⟩:∃A',(if cL=2 then some ⟨bl,ol,none⟩else(some (⟨bl,ol,none⟩:Addr)).map (·.add 2))=A' :=⟨_,rfl⟩;have I9 :=zh hA';have nA:=zh (show bw W9 9 1 fC A' L3 from by rw[<-hA'];exact wY.drop hlc (k:=2));have K4:=zh hlc;clear Nv Cc h4 hlc wY hrl hcl hA'
      go_upto_region 11 with fail
      refine fV b 29 ((X7.setIfInBounds 11 (.string ⟨s1.toArray⟩)).setIfInBounds 12 (.string ⟨s2.toArray⟩)) _ (by kernel_rfl) rfl (by kernel_rfl) ?_;refine pq (.slice (some ⟨bl,ol,none⟩) (s1::s2::L3).length cL) ?_;refine pq (.pointer (some ⟨bl,ol+0,none⟩)) ?_ (h:=λW vals=>m_ (x:= .tmp 89) (i:= .const (.int .i64 0)) (n:=(s1::s2::L3).length) (c:=cL) (k:=0) (kl:= .i64) rfl (by kernel_rfl) (by kernel_rfl) (iG _));refine pl 9 (.tmp 90) (.string ⟨s1.toArray⟩) Kl.o oe.o MW.o.1 ?_;refine pq (.slice (some ⟨bl,ol,none⟩) (s1::s2::L3).length cL) ?_;refine pq (.pointer (some ⟨bl,ol+1,none⟩)) ?_ (h:=λW vals=>m_ (x:= .tmp 92) (i:= .const (.int .i64 1)) (n:=(s1::s2::L3).length) (c:=cL) (k:=1) (kl:= .i64) rfl (by kernel_rfl) (by kernel_rfl) (Nat.succ_lt_succ (iG _)));refine pl 9 (.tmp 93) (.string ⟨s2.toArray⟩) Kl.o oe.o MW.o.2 ?_;refine pq (.slice (some ⟨bl,ol,none⟩) (s1::s2::L3).length cL) ?_;refine pq (.slice A' ((s1::s2::L3).length - 2) (cL - 2)) ?_ (h:=λW vals=>by rw[pK (x:= .tmp 95) (lo:= .const (.int .i64 2)) (a:=some ⟨bl,ol,none⟩) (len:=(s1::s2::L3).length) (cap:=cL) (l:=2) (kl:= .i64) rfl (by kernel_rfl) (by kernel_rfl) (Nat.succ_le_succ (iG _)),I9.o])
      iterate 2
       refine pq (.pointer (some ⟨b,11,none⟩)) ?_
      refine wR (i:=11) 9 (.tmp 98) (.tmp 91) (.string ⟨s1.toArray⟩) jZ.o.g (Qv (by rw[jZ.o.x.z];decide) (by decide) rfl) (by rw[jZ.o.x.z];exact fL rfl) (by simp[Value.cells,Value.oneCell']) ?_;refine pq (.pointer (some ⟨b,11,none⟩)) ?_;refine pq (.pointer (some ⟨b,12,none⟩)) ?_;refine wR (i:=12) 9 (.tmp 100) (.tmp 94) (.string ⟨s2.toArray⟩) jZ.o.g (Lh (by rw[xj,jZ.o.x.z];decide) rfl) (by rw[jZ.o.x.z];exact fL rfl) (by simp[Value.cells,Value.oneCell']) ?_;refine pq (.slice A' ((s1::s2::L3).length - 2) (cL - 2)) ?_;refine aq (λW9 vals hW ag=> ?_);simp only[af,aw]at ag;obtain⟨g2,g1,_⟩:=ag;have rf:=zh (jZ.o.to hW.k (bT.Qx hW jZ.o.g (bT.step (i:=11) (n:=1) jZ.o.g g1) (bT.step (i:=12) (n:=1) jZ.o.g g2)) ((jZ.o.x.set 11 rfl).set 12 rfl));have BW:=zh (show PF W9 (.slice A' ((s1::s2::L3).length - 2) (cL - 2)) L3 from⟨A',cL - 2,rfl,by have:=K4.o;simp at this;omega,nA.o.box hW.k jZ.o.g (by decide)⟩);simp only[af,fill,Act.put,bo,bn,bh];clear g1 g2 hW
      go_wp2_with fail
      go_meet
      exact zh (by unfold w_ xd;rw[H4.o,DV.o];exact⟨rf.o,BW.o⟩)
    case rest=>
     have rf:=zh hcut.o.1;have BW:=zh hcut.o.2;clear hcut iB Nv jZ;have R7:=zh (show(xd f L1).length=n2+n3 from Hu f L1 (by have h1:=lM.o;have h2:=zS.o.2.2;have h3:=jt.o.1;rw[du]at h1;omega));have Sf:=zh (show(w_ f L1 X7)[15]? =some (.bool (aH f 128))/\(w_ f L1 X7)[16]? =some (.bool (aH f 64))from by rw[BH _ _ _ (by decide) (by decide),BH _ _ _ (by decide) (by decide)];exact Nz.o.2);obtain⟨X8,Rj⟩:∃X8,w_ f L1 X7=X8:=⟨_,rfl⟩;obtain⟨L2,wH⟩:∃L2,xd f L1=L2:=⟨_,rfl⟩;rw[Rj]at rf Sf;rw[wH]at BW R7;have TF:=zh (And.intro Rj wH);have wK:=zh (show g_ (aH f 128) 1<=L2.length by have:=R7.o;have:=jt.o.2.1;omega);have iB:=(rf.o.g.cell 15).trans Sf.o.1;clear Rj wH
     go_upto_if 102 with fail
     go_cut [6] (λv wx=>Hid (lO w wx b (tL (aH f 128) 17 L2 X8)/\PF wx v (BI (aH f 128) L2)))
     case first=>
      cases h4:aH f 128 with
      | false=>
       rw[h4]at iB
       go_wp2_with fail
       go_meet
       exact zh (by rw[h4];exact⟨rf.o,BW.o⟩)
      | true=>
       rw[h4]at iB;obtain⟨s1,L3,Cc⟩:∃s1 L3,L2=s1::L3:=by
        rcases hh:L2 with _ | ⟨s1,L3⟩
        ·exact absurd wK.o (by rw[h4,hh];simp[g_])
        ·exact⟨s1,L3,rfl⟩
       rw[Cc]at BW;have DV:=zh Cc;have H4:=zh h4;obtain⟨A,cL,hv,hlc,wY⟩:=BW.o.e;subst hv;have og:=zh wY;have K4:=zh hlc;clear BW Cc h4 hlc wY;obtain⟨bl,ol,cs,rfl,hrl,hcl⟩:=og.o (iG _);have oe:=zh hrl;have Kl:=zh (iJ hrl rf.o.g (by decide));have MW:=zh (show cs[ol+0]? =some (Value.string ⟨s1.toArray⟩)from hcl 0 (iG _) 0 (by omega));obtain⟨A',hA'⟩:∃A',(if cL=1 then some ⟨bl,ol,none⟩else(some (⟨bl,ol,none⟩:Addr)).map (·.add 1))=A' :=⟨_,rfl⟩;have I9 :=zh hA';have nA:=zh (show∀W,ae W W []->bw W 9 1 fC (some ⟨bl,ol,none⟩) (s1::L3)->bw W 9 1 fC A' L3 from λW _ hh=>by rw[<-hA'];exact hh.drop K4.o (k:=1));clear hrl hcl hA'
       go_upto_region 13 with fail
       refine fV b 29 (X8.setIfInBounds 17 (.string ⟨s1.toArray⟩)) _ (by kernel_rfl) rfl (by kernel_rfl) ?_;refine pq (.slice (some ⟨bl,ol,none⟩) (s1::L3).length cL) ?_;refine pq (.pointer (some ⟨bl,ol+0,none⟩)) ?_ (h:=λW vals=>m_ (x:= .tmp 103) (i:= .const (.int .i64 0)) (n:=(s1::L3).length) (c:=cL) (k:=0) (kl:= .i64) rfl (by kernel_rfl) (by kernel_rfl) (iG _));refine pl 9 (.tmp 104) (.string ⟨s1.toArray⟩) Kl.o oe.o MW.o ?_;refine pq (.slice (some ⟨bl,ol,none⟩) (s1::L3).length cL) ?_;refine pq (.slice A' ((s1::L3).length - 1) (cL - 1)) ?_ (h:=λW vals=>by rw[pK (x:= .tmp 106) (lo:= .const (.int .i64 1)) (a:=some ⟨bl,ol,none⟩) (len:=(s1::L3).length) (cap:=cL) (l:=1) (kl:= .i64) rfl (by kernel_rfl) (by kernel_rfl) (iG _),I9.o]);refine pq (.pointer (some ⟨b,17,none⟩)) ?_;refine wR (i:=17) 9 (.tmp 108) (.tmp 105) (.string ⟨s1.toArray⟩) rf.o.g (Lh (by rw[rf.o.x.z];decide) rfl) (by rw[rf.o.x.z];exact fL rfl) (by simp[Value.cells,Value.oneCell']) ?_;refine pq (.slice A' ((s1::L3).length - 1) (cL - 1)) ?_;refine aq (λW9 vals hW ag=> ?_);simp only[af,aw]at ag;obtain⟨g0,_⟩:=ag;have gY:=zh (rf.o.to hW.k (bT.put hW rf.o.g (bT.step (i:=17) (n:=1) rf.o.g g0)) (rf.o.x.set 17 rfl));have DW:=zh (show PF W9 (.slice A' ((s1::L3).length - 1) (cL - 1)) L3 from⟨A',cL - 1,rfl,by have:=K4.o;simp at this;omega,(nA.o _ (ae.refl _ _) og.o).box hW.k rf.o.g (by decide)⟩);simp only[af,fill,Act.put,bo,bn,bh];clear g0 hW
       go_wp2_with fail
       go_meet
       exact zh (by unfold tL BI;rw[H4.o,DV.o];exact⟨gY.o,DW.o⟩)
     case rest=>
      have gY:=zh hcut.o.1;have DW:=zh hcut.o.2;clear hcut iB BW rf wK;have Pg:=zh (show(BI (aH f 128) L2).length=n3 from Ht _ L2 (by have h1:=R7.o;have h3:=jt.o.2.1;omega));have T8:=zh (show(tL (aH f 128) 17 L2 X8)[16]? =some (.bool (aH f 64))from by rw[Hs _ _ _ _ (by decide)];exact Sf.o.2);obtain⟨X9,JU⟩:∃X9,tL (aH f 128) 17 L2 X8=X9:=⟨_,rfl⟩;obtain⟨L3,Cc⟩:∃L3,BI (aH f 128) L2=L3:=⟨_,rfl⟩;rw[JU]at gY T8;rw[Cc]at DW Pg;have TE:=zh (And.intro JU Cc);have wK:=zh (show g_ (aH f 64) 1<=L3.length by have:=Pg.o;have:=jt.o.2.2;omega);have iB:=(gY.o.g.cell 16).trans T8.o;clear JU Cc
      go_upto_if 110 with fail
      go_cut [] (λwx=>Hid (lO w wx b (tL (aH f 64) 18 L3 X9)))
      case first=>
       cases h4:aH f 64 with
       | false=>
        rw[h4]at iB
        go_wp2_with fail
        go_meet
        exact zh (by rw[h4];exact gY.o)
       | true=>
        rw[h4]at iB;obtain⟨s1,L4,FW⟩:∃s1 L4,L3=s1::L4:=by
         rcases hh:L3 with _ | ⟨s1,L4⟩
         ·exact absurd wK.o (by rw[h4,hh];simp[g_])
         ·exact⟨s1,L4,rfl⟩
        rw[FW]at DW;have Pm:=zh FW;have H4:=zh h4;obtain⟨A,cL,hv,hlc,wY⟩:=DW.o.e;subst hv;obtain⟨bl,ol,cs,rfl,hrl,hcl⟩:=wY (iG _);have m0:=(hrl.cell (ol+0)).trans (show cs[ol+0]? =some (Value.string ⟨s1.toArray⟩)from hcl 0 (iG _) 0 (by omega));have hm0:0 < (s1::L4).length:=iG _;clear DW FW h4 hlc wY hrl hcl
        go_upto_region 15 with fail
        refine cV ?_;refine aA (.slice (some ⟨bl,ol,none⟩) (s1::L4).length cL) rfl (by kernel_rfl) ?_;refine aA (.pointer (some ⟨bl,ol+0,none⟩)) rfl (m_ (x:= .tmp 111) (i:= .const (.int .i64 0)) (n:=(s1::L4).length) (c:=cL) (k:=0) (kl:= .i64) rfl (by kernel_rfl) (by kernel_rfl) hm0) ?_;refine bO 9 (.tmp 112) ⟨bl,ol+0,none⟩ (.string ⟨s1.toArray⟩) rfl rfl (by kernel_rfl) (λ_=>by kernel_rfl) m0 ?_;refine aA (.pointer (some ⟨b,18,none⟩)) rfl (by kernel_rfl) ?_;refine dY rfl 9 (.tmp 114) (.tmp 113) b 18 (.string ⟨s1.toArray⟩) rfl (by kernel_rfl) (by kernel_rfl) rfl rfl (by kernel_rfl) gY.o.g (by rw[gY.o.x.z];decide) ?_;intro wz rz kz;have iZ:=zh (gY.o.to kz rz (gY.o.x.set 18 rfl));clear rz kz;simp only[Act.put,bo,bn,bh]
        go_wp2_with fail
        go_meet
        exact zh (by unfold tL;rw[H4.o,Pm.o];exact iZ.o)
      case rest=>
       have iZ:=zh hcut.o;clear hcut iB DW gY wK;have Pu:=zh (show Value.agg (tL (aH f 64) 18 L3 X9)=eO (ox f kp (s0::L1)) aN aN aN from by rw[<-TE.o.1,<-TE.o.2,<-TF.o.1,<-TF.o.2,<-Vv.o,Vw.o];exact Hr f kp s0 L1);obtain⟨Y,hY⟩:∃Y,tL (aH f 64) 18 L3 X9=Y:=⟨_,rfl⟩;rw[hY]at Pu iZ;clear hY;have HP:=zh (show∀e w',e= .returned (.tuple #[.agg Y,.bool true])->ae w w' []->IQ w l e w' from λe w' h1 h2=>⟨h2,by rw[FP.o];show e=_;rw[h1,Pu.o]⟩)
       go_upto_region 16 with fail
       refine cV ?_;refine bf (by kernel_rfl) rfl rfl iZ.o.g underlying29 rfl (by rw[iZ.o.x.z];kernel_rfl) ?_;refine wpList_store_row rfl (.tmp 2) (.tmp 115) 29 rfl w.heap.size Y cT iZ.o.s (by rw[iZ.o.x.z];kernel_rfl) (by rw[iZ.o.x.z];rfl) iZ.o.x.one rfl rfl ?_;intro va ra ka;simp only[Act.put,bo,bn,bh];have HE:=zh (And.intro ra (iZ.o.k.trans ka (λy hy hlt=>by simp at hy;omega)));have uB:=zh iZ.o.x;clear ra ka;refine aA (.bool true) rfl (by kernel_rfl) ?_;simp only[Act.put,bo,bn,bh];rename_i K hK
       change K _ _
       refine hK _ _ ?_;refine wp_ret ?_

       refine bD (bV rfl rfl HE.o.1 uB.o.z) rfl ?_;have hh:=HP.o _ _ rfl HE.o.2;exact hh
  ·have sZ:(l.take 7== [0,4,77,81,84,84,4])=false:=by simpa using h7
   have FP:=zh (show mc l=none by rw[HN.o,aj h7])
   generalize l.take 7=m at sZ Nz
   clear h7 HN m7 m8 m9 hl HH HB
   go_enter func42,ntmps42
   go_upto_region 1 with fail
   try rw[aV]
   clear aV
   go_wp2_with (refine wpList_store_row rfl (.tmp 2) (.tmp 17) 29 rfl w.heap.size cT cT fw.o (by kernel_rfl) rfl (by simp[Value.oneCell']) rfl rfl ?_;intro va ra ka;refine Hid.o ?_)
   refine zh ?_;have HE:=zh (And.intro ra (HK.o.trans ka (λy hy hlt=>by simp at hy;omega)));clear ra ka
   go_wp2_with fail
   refine bD (bV rfl rfl HE.o.1 rfl) rfl ⟨HE.o.2, ?_⟩;rw[FP.o];exact⟨cT,rfl,by simp[Value.oneCell'],rfl⟩
end Go.Proofs.YtahbikfbjenfpaaGreatDoor
