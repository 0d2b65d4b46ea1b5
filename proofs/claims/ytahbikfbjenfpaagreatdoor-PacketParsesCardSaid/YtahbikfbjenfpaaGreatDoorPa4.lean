/- Package packet: all of a packet but its lists. Package packet: two plain packets held against each other. Package packet: are two packets the same? -/
import Derived.Test.YtahbikfbjenfpaaGreatDoorPa3
import Derived.Test.YtahbikfbjenfpaaGreatDoorPa2
import Derived.Deep.WholeRow
set_option maxHeartbeats 2000000
set_option maxRecDepth 100000
namespace Go.Proofs.YtahbikfbjenfpaaGreatDoor
open Tryz Go.RowKit

abbrev yf (p:Pk):Value:= .agg #[.int .i64 p.k,.bool p.dup,.bool p.ret,.bool p.cl,.bool p.hw,.bool p.hu,.bool p.hp,.bool p.pr,.int .i64 p.q,.int .i64 p.code,.int .i64 p.id,.int .i64 p.keep,.string ⟨p.t.toArray⟩,.string ⟨p.b.toArray⟩,.string ⟨p.c.toArray⟩,.string ⟨p.u.toArray⟩,.string ⟨p.pw.toArray⟩,.string ⟨p.wt.toArray⟩,.string ⟨p.wb.toArray⟩,.int .i64 p.wq,.bool p.wr]
/-- A whole value is laid into the box that was made last. -/
theorem aQ {ops:Array Oper}{rest:List Oper}{op:Oper}{a:Act}{w:au}{Q:Exit->Act->au->Prop}{t:TypeId}(hgd:op.guard=none)(x y:Operand)(ho:op.op= .store t x y)(X Z:Array Value)(w1:au)(hw:w=w1.alloc (.cells Z t))(hi:(Tryz.prog.info? t).map (·.size)=some X.size)(hZ:Z.size=X.size)(h1:X.all (·.oneCell')=true)
  (hx:a.eval x= .pointer (some ⟨w1.heap.size,0,none⟩)) (hy:a.eval y= .agg X)
  (h:∀w',w1.alloc (.cells X t)=w' ->Hid (wpList prog ops Q rest (a.put op.dst undef) w')):wpList prog ops Q (op::rest) a w:=by
 subst hw;refine tV hgd λ_ hK=> ?_
 unfold Oper.wp execOp;have hrun:=run_storeAt_new (P:=prog) w1 t Z X hi hZ h1;simp only[ho,hx,hy,fo,hrun,fk,gq];exact hK _ _ (h _ rfl).o
/-- A function's result, read out of its cells at once. -/
theorem aW {f:Func}{t:Array Value}{w:au}{s:Nat}{ty:TypeId}{g:Nat}{cs:List Value}{d:TypeDesc}(hf:f.results= #[.cell s ty])(ht:t.getD s undef= .pointer (some ⟨g,0,none⟩))(hc:w.rangeAt g 0 cs)(hu:Tryz.prog.underlying ty=some d)(hd:d.isRow=true)(hi:(Tryz.prog.info? ty).map (·.size)=some cs.length):
  (results f t).run prog w= .ok (.agg cs.toArray) w:=by
 have h:=run_loadVar_mid w g 0 ty cs d hc hu hd hi;rw[ou]at ht;simp[results,hf,ht,h,asAddr]
theorem F8:∃d,Tryz.prog.underlying 83=some d/\d.isRow=true:=⟨_,underlying83,rfl⟩
theorem vN (p:Pk)(sw sc sf:Value)(w:au):Calls prog 40 #[eO p sw sc sf] w λe w' =>e= .returned (yf p)/\ae w w' []:=by
 obtain⟨k,dup,ret,q,t,b,id,c,cl,keep,hw,wt,wb,wq,wr,hu,hp,u,pw,pr,code,wants,aF,fs⟩:=p;obtain⟨W0,aV⟩:∃W,(w).alloc (.cells (zP k dup ret q t b id c cl keep hw wt wb wq wr hu hp u pw pr code sw sc sf) 29)=W:=⟨_,rfl⟩;have k0:ae (w) W0 []:=by rw[<-aV];exact ae.alloc _ _
 have r0:Row W0 (w).heap.size 29 (zP k dup ret q t b id c cl keep hw wt wb wq wr hu hp u pw pr code sw sc sf):=by rw[<-aV];exact Row.new _ _ _
 have HR:=zh (And.intro k0 r0);clear k0 r0;obtain⟨W1,hW1⟩:∃W1,W0.alloc (.cells #[.int .i64 0,.bool false,.bool false,.bool false,.bool false,.bool false,.bool false,.bool false,.int .i64 0,.int .i64 0,.int .i64 0,.int .i64 0,.string ⟨#[]⟩,.string ⟨#[]⟩,.string ⟨#[]⟩,.string ⟨#[]⟩,.string ⟨#[]⟩,.string ⟨#[]⟩,.string ⟨#[]⟩,.int .i64 0,.bool false] 83)=W1:=⟨_,rfl⟩;have r1:Row W1 w.heap.size 29 (zP k dup ret q t b id c cl keep hw wt wb wq wr hu hp u pw pr code sw sc sf):=by rw[<-hW1];exact HR.o.2.alloc _
 have x0:=r1.cell 0;have x1:=r1.cell 1;have x2:=r1.cell 2;have x3:=r1.cell 3;have x4:=r1.cell 4;have x5:=r1.cell 5;have x6:=r1.cell 6;have x7:=r1.cell 7;have x8:=r1.cell 8;have x9:=r1.cell 9;have iB:=r1.cell 10;have mz:=r1.cell 11;have lV:=r1.cell 12;have lU:=r1.cell 13;have mw:=r1.cell 14;have jf:=r1.cell 15;have hU:=r1.cell 16;have lT:=r1.cell 17;have mL:=r1.cell 18;have mK:=r1.cell 19;have x20:=r1.cell 20;have ju:=r1.cell 21;have mr:=r1.cell 22;have mJ:=r1.cell 23;simp only[cg,bU,fe]at x0 x1 x2 x3 x4 x5 x6 x7 x8 x9 iB mz lV lU mw jf hU lT mL mK x20 ju mr mJ;clear r1;have HK:=zh HR.o.1;clear HR
 go_enter func40,ntmps40
 go_wp2_with (refine aQ rfl (.tmp 2) (.tmp 39) rfl #[.int .i64 k,.bool dup,.bool ret,.bool cl,.bool hw,.bool hu,.bool hp,.bool pr,.int .i64 q,.int .i64 code,.int .i64 id,.int .i64 keep,.string ⟨t.toArray⟩,.string ⟨b.toArray⟩,.string ⟨c.toArray⟩,.string ⟨u.toArray⟩,.string ⟨pw.toArray⟩,.string ⟨wt.toArray⟩,.string ⟨wb.toArray⟩,.int .i64 wq,.bool wr] #[.int .i64 0,.bool false,.bool false,.bool false,.bool false,.bool false,.bool false,.bool false,.int .i64 0,.int .i64 0,.int .i64 0,.int .i64 0,.string ⟨#[]⟩,.string ⟨#[]⟩,.string ⟨#[]⟩,.string ⟨#[]⟩,.string ⟨#[]⟩,.string ⟨#[]⟩,.string ⟨#[]⟩,.int .i64 0,.bool false] W0 hW1.symm (by kernel_rfl) rfl (by simp[Value.oneCell']) rfl rfl ?_;intro w5 iy)
 refine zh ?_;obtain⟨X,hX⟩:∃X:Array Value, #[.int .i64 k,.bool dup,.bool ret,.bool cl,.bool hw,.bool hu,.bool hp,.bool pr,.int .i64 q,.int .i64 code,.int .i64 id,.int .i64 keep,.string ⟨t.toArray⟩,.string ⟨b.toArray⟩,.string ⟨c.toArray⟩,.string ⟨u.toArray⟩,.string ⟨pw.toArray⟩,.string ⟨wt.toArray⟩,.string ⟨wb.toArray⟩,.int .i64 wq,.bool wr]=X:=⟨_,rfl⟩;rw[hX]at iy;have q9:Row w5 W0.heap.size 83 X:=by rw[<-iy];exact Row.new _ _ _
 have k9:ae W0 w5 []:=by rw[<-iy];exact ae.alloc _ _
 have H9:=zh (And.intro q9 (HK.o.ah k9));clear x0 x1 x2 x3 x4 x5 x6 x7 x8 x9 iB mz lV lU mw jf hU lT mL mK x20 ju mr mJ;clear k9 aV hW1 q9 iy
 go_wp2_with fail
 obtain⟨d,hu,hd⟩:=F8;refine bD (aW (s:=2) (cs:=X.toList) rfl rfl (aD H9.o.1) hu hd (by rw[<-hX];kernel_rfl)) rfl ⟨?_,H9.o.2⟩;rw[<-hX]

theorem dh {P : Program} {d : Nat} {xs ys : Array Value} {f : Field} {fs : List Field} {a b : Value} {r s : Bool} (hn : (f.name != "_") = true) (h1 : ∀ w, (part f.type xs f.offset).run P w = .ok a w) (h2 : ∀ w, (part f.type ys f.offset).run P w = .ok b w) (h3 : ∀ w, (Op.equalIn d f.type a b).run P w = .ok r w) (h4 : ∀ w, (Op.eqFields d xs ys fs).run P w = .ok s w) (w : au) :
  (Op.eqFields d xs ys (f::fs)).run P w= .ok (r && s) w:=by
 simp only[Op.eqFields,fo,Sem.run_ite,h1,h2,h3,h4,fk];have hn' : ¬ f.name = "_" := by simpa using hn
 cases r <;> simp[hn']
theorem El {P:Program}{d:Nat}{xs ys:Array Value}(w:au):(Op.eqFields d xs ys []).run P w= .ok true w:=by
 simp[Op.eqFields]
def lZ (p p' :Pk):Bool:=p.wt==p'.wt && (p.wb==p'.wb && (p.wq==p'.wq && (p.wr==p'.wr && true)))
def Bw (p p' :Pk):Bool:=p.k==p'.k && (p.dup==p'.dup && (p.ret==p'.ret && (p.cl==p'.cl && (p.hw==p'.hw && (p.hu==p'.hu && (p.hp==p'.hp && (p.pr==p'.pr && (p.q==p'.q && (p.code==p'.code && (p.id==p'.id && (p.keep==p'.keep && (p.t==p'.t && (p.b==p'.b && (p.c==p'.c && (p.u==p'.u && (p.pw==p'.pw && (lZ p p' && true)))))))))))))))))
theorem fO {P:Program}(w:au)(d:Nat)(t:TypeId)(a b:aG)(h:P.underlying t=some .string):(Op.equalIn (d+1) t (.string ⟨a.toArray⟩) (.string ⟨b.toArray⟩)).run P w= .ok (a==b) w:=by
 rw[run_equalIn_string w d t _ _ h];simp
theorem yw (d:Nat)(p p' :Pk)(w:au):(Op.equalIn (d+2) 24 (.agg #[.string ⟨p.wt.toArray⟩,.string ⟨p.wb.toArray⟩,.int .i64 p.wq,.bool p.wr]) (.agg #[.string ⟨p'.wt.toArray⟩,.string ⟨p'.wb.toArray⟩,.int .i64 p'.wq,.bool p'.wr])).run prog w= .ok (lZ p p') w:=by
 have hS:Tryz.prog.underlying 24=some (.struct (Tryz.prog.fieldsOf 24)):=by kernel_rfl
 have hp:Tryz.prog.stoodInHeld 24=false:=by kernel_rfl
 unfold lZ;rw[run_equalIn_struct w (d+1) _ _ _ hS hp];simp only[Program.fieldsOf,underlying24];refine(dh (a:= .string ⟨p.wt.toArray⟩) (b:= .string ⟨p'.wt.toArray⟩) (r:=(p.wt==p'.wt)) rfl (λw=> ?_) (λw=> ?_) (λw=> ?_) (λw=> ?_) w)
 ·go_simp
 ·go_simp
 ·first | exact run_equalIn_int w _ _ _ .i64 _ _ (by kernel_rfl) | exact run_equalIn_bool' w _ _ _ _ (by kernel_rfl) | exact fO w _ _ _ _ (by kernel_rfl)
 refine(dh (a:= .string ⟨p.wb.toArray⟩) (b:= .string ⟨p'.wb.toArray⟩) (r:=(p.wb==p'.wb)) rfl (λw=> ?_) (λw=> ?_) (λw=> ?_) (λw=> ?_) w)
 ·go_simp
 ·go_simp
 ·first | exact run_equalIn_int w _ _ _ .i64 _ _ (by kernel_rfl) | exact run_equalIn_bool' w _ _ _ _ (by kernel_rfl) | exact fO w _ _ _ _ (by kernel_rfl)
 refine(dh (a:= .int .i64 p.wq) (b:= .int .i64 p'.wq) (r:=(p.wq==p'.wq)) rfl (λw=> ?_) (λw=> ?_) (λw=> ?_) (λw=> ?_) w)
 ·go_simp
 ·go_simp
 ·first | exact run_equalIn_int w _ _ _ .i64 _ _ (by kernel_rfl) | exact run_equalIn_bool' w _ _ _ _ (by kernel_rfl) | exact fO w _ _ _ _ (by kernel_rfl)
 refine(dh (a:= .bool p.wr) (b:= .bool p'.wr) (r:=(p.wr==p'.wr)) rfl (λw=> ?_) (λw=> ?_) (λw=> ?_) (λw=> ?_) w)
 ·go_simp
 ·go_simp
 ·first | exact run_equalIn_int w _ _ _ .i64 _ _ (by kernel_rfl) | exact run_equalIn_bool' w _ _ _ _ (by kernel_rfl) | exact fO w _ _ _ _ (by kernel_rfl)
 exact El w
theorem GF (d:Nat)(p p' :Pk)(w:au):(Op.equalIn (d+3) 83 (yf p) (yf p')).run prog w= .ok (Bw p p') w:=by
 have hS:Tryz.prog.underlying 83=some (.struct (Tryz.prog.fieldsOf 83)):=by kernel_rfl
 have hp:Tryz.prog.stoodInHeld 83=false:=by kernel_rfl
 unfold yf Bw;rw[run_equalIn_struct w (d+2) _ _ _ hS hp];simp only[Program.fieldsOf,underlying83];refine(dh (a:= .int .i64 p.k) (b:= .int .i64 p'.k) (r:=(p.k==p'.k)) rfl (λw=> ?_) (λw=> ?_) (λw=> ?_) (λw=> ?_) w)
 ·go_simp
 ·go_simp
 ·first | exact run_equalIn_int w _ _ _ .i64 _ _ (by kernel_rfl) | exact run_equalIn_bool' w _ _ _ _ (by kernel_rfl) | exact fO w _ _ _ _ (by kernel_rfl)
 refine(dh (a:= .bool p.dup) (b:= .bool p'.dup) (r:=(p.dup==p'.dup)) rfl (λw=> ?_) (λw=> ?_) (λw=> ?_) (λw=> ?_) w)
 ·go_simp
 ·go_simp
 ·first | exact run_equalIn_int w _ _ _ .i64 _ _ (by kernel_rfl) | exact run_equalIn_bool' w _ _ _ _ (by kernel_rfl) | exact fO w _ _ _ _ (by kernel_rfl)
 refine(dh (a:= .bool p.ret) (b:= .bool p'.ret) (r:=(p.ret==p'.ret)) rfl (λw=> ?_) (λw=> ?_) (λw=> ?_) (λw=> ?_) w)
 ·go_simp
 ·go_simp
 ·first | exact run_equalIn_int w _ _ _ .i64 _ _ (by kernel_rfl) | exact run_equalIn_bool' w _ _ _ _ (by kernel_rfl) | exact fO w _ _ _ _ (by kernel_rfl)
 refine(dh (a:= .bool p.cl) (b:= .bool p'.cl) (r:=(p.cl==p'.cl)) rfl (λw=> ?_) (λw=> ?_) (λw=> ?_) (λw=> ?_) w)
 ·go_simp
 ·go_simp
 ·first | exact run_equalIn_int w _ _ _ .i64 _ _ (by kernel_rfl) | exact run_equalIn_bool' w _ _ _ _ (by kernel_rfl) | exact fO w _ _ _ _ (by kernel_rfl)
 refine(dh (a:= .bool p.hw) (b:= .bool p'.hw) (r:=(p.hw==p'.hw)) rfl (λw=> ?_) (λw=> ?_) (λw=> ?_) (λw=> ?_) w)
 ·go_simp
 ·go_simp
 ·first | exact run_equalIn_int w _ _ _ .i64 _ _ (by kernel_rfl) | exact run_equalIn_bool' w _ _ _ _ (by kernel_rfl) | exact fO w _ _ _ _ (by kernel_rfl)
 refine(dh (a:= .bool p.hu) (b:= .bool p'.hu) (r:=(p.hu==p'.hu)) rfl (λw=> ?_) (λw=> ?_) (λw=> ?_) (λw=> ?_) w)
 ·go_simp
 ·go_simp
 ·first | exact run_equalIn_int w _ _ _ .i64 _ _ (by kernel_rfl) | exact run_equalIn_bool' w _ _ _ _ (by kernel_rfl) | exact fO w _ _ _ _ (by kernel_rfl)
 refine(dh (a:= .bool p.hp) (b:= .bool p'.hp) (r:=(p.hp==p'.hp)) rfl (λw=> ?_) (λw=> ?_) (λw=> ?_) (λw=> ?_) w)
 ·go_simp
 ·go_simp
 ·first | exact run_equalIn_int w _ _ _ .i64 _ _ (by kernel_rfl) | exact run_equalIn_bool' w _ _ _ _ (by kernel_rfl) | exact fO w _ _ _ _ (by kernel_rfl)
 refine(dh (a:= .bool p.pr) (b:= .bool p'.pr) (r:=(p.pr==p'.pr)) rfl (λw=> ?_) (λw=> ?_) (λw=> ?_) (λw=> ?_) w)
 ·go_simp
 ·go_simp
 ·first | exact run_equalIn_int w _ _ _ .i64 _ _ (by kernel_rfl) | exact run_equalIn_bool' w _ _ _ _ (by kernel_rfl) | exact fO w _ _ _ _ (by kernel_rfl)
 refine(dh (a:= .int .i64 p.q) (b:= .int .i64 p'.q) (r:=(p.q==p'.q)) rfl (λw=> ?_) (λw=> ?_) (λw=> ?_) (λw=> ?_) w)
 ·go_simp
 ·go_simp
 ·first | exact run_equalIn_int w _ _ _ .i64 _ _ (by kernel_rfl) | exact run_equalIn_bool' w _ _ _ _ (by kernel_rfl) | exact fO w _ _ _ _ (by kernel_rfl)
 refine(dh (a:= .int .i64 p.code) (b:= .int .i64 p'.code) (r:=(p.code==p'.code)) rfl (λw=> ?_) (λw=> ?_) (λw=> ?_) (λw=> ?_) w)
 ·go_simp
 ·go_simp
 ·first | exact run_equalIn_int w _ _ _ .i64 _ _ (by kernel_rfl) | exact run_equalIn_bool' w _ _ _ _ (by kernel_rfl) | exact fO w _ _ _ _ (by kernel_rfl)
 refine(dh (a:= .int .i64 p.id) (b:= .int .i64 p'.id) (r:=(p.id==p'.id)) rfl (λw=> ?_) (λw=> ?_) (λw=> ?_) (λw=> ?_) w)
 ·go_simp
 ·go_simp
 ·first | exact run_equalIn_int w _ _ _ .i64 _ _ (by kernel_rfl) | exact run_equalIn_bool' w _ _ _ _ (by kernel_rfl) | exact fO w _ _ _ _ (by kernel_rfl)
 refine(dh (a:= .int .i64 p.keep) (b:= .int .i64 p'.keep) (r:=(p.keep==p'.keep)) rfl (λw=> ?_) (λw=> ?_) (λw=> ?_) (λw=> ?_) w)
 ·go_simp
 ·go_simp
 ·first | exact run_equalIn_int w _ _ _ .i64 _ _ (by kernel_rfl) | exact run_equalIn_bool' w _ _ _ _ (by kernel_rfl) | exact fO w _ _ _ _ (by kernel_rfl)
 refine(dh (a:= .string ⟨p.t.toArray⟩) (b:= .string ⟨p'.t.toArray⟩) (r:=(p.t==p'.t)) rfl (λw=> ?_) (λw=> ?_) (λw=> ?_) (λw=> ?_) w)
 ·go_simp
 ·go_simp
 ·first | exact run_equalIn_int w _ _ _ .i64 _ _ (by kernel_rfl) | exact run_equalIn_bool' w _ _ _ _ (by kernel_rfl) | exact fO w _ _ _ _ (by kernel_rfl)
 refine(dh (a:= .string ⟨p.b.toArray⟩) (b:= .string ⟨p'.b.toArray⟩) (r:=(p.b==p'.b)) rfl (λw=> ?_) (λw=> ?_) (λw=> ?_) (λw=> ?_) w)
 ·go_simp
 ·go_simp
 ·first | exact run_equalIn_int w _ _ _ .i64 _ _ (by kernel_rfl) | exact run_equalIn_bool' w _ _ _ _ (by kernel_rfl) | exact fO w _ _ _ _ (by kernel_rfl)
 refine(dh (a:= .string ⟨p.c.toArray⟩) (b:= .string ⟨p'.c.toArray⟩) (r:=(p.c==p'.c)) rfl (λw=> ?_) (λw=> ?_) (λw=> ?_) (λw=> ?_) w)
 ·go_simp
 ·go_simp
 ·first | exact run_equalIn_int w _ _ _ .i64 _ _ (by kernel_rfl) | exact run_equalIn_bool' w _ _ _ _ (by kernel_rfl) | exact fO w _ _ _ _ (by kernel_rfl)
 refine(dh (a:= .string ⟨p.u.toArray⟩) (b:= .string ⟨p'.u.toArray⟩) (r:=(p.u==p'.u)) rfl (λw=> ?_) (λw=> ?_) (λw=> ?_) (λw=> ?_) w)
 ·go_simp
 ·go_simp
 ·first | exact run_equalIn_int w _ _ _ .i64 _ _ (by kernel_rfl) | exact run_equalIn_bool' w _ _ _ _ (by kernel_rfl) | exact fO w _ _ _ _ (by kernel_rfl)
 refine(dh (a:= .string ⟨p.pw.toArray⟩) (b:= .string ⟨p'.pw.toArray⟩) (r:=(p.pw==p'.pw)) rfl (λw=> ?_) (λw=> ?_) (λw=> ?_) (λw=> ?_) w)
 ·go_simp
 ·go_simp
 ·first | exact run_equalIn_int w _ _ _ .i64 _ _ (by kernel_rfl) | exact run_equalIn_bool' w _ _ _ _ (by kernel_rfl) | exact fO w _ _ _ _ (by kernel_rfl)
 refine(dh (a:=Value.agg #[.string ⟨p.wt.toArray⟩,.string ⟨p.wb.toArray⟩,.int .i64 p.wq,.bool p.wr]) (b:=Value.agg #[.string ⟨p'.wt.toArray⟩,.string ⟨p'.wb.toArray⟩,.int .i64 p'.wq,.bool p'.wr]) (r:=lZ p p') rfl (λw=> ?_) (λw=> ?_) (λw=>yw d p p' w) (λw=>El w) w)
 ·go_simp
 ·go_simp
theorem Hj {p p' :Pk}(hw:p.wants=p'.wants)(hc:p.aF=p'.aF)(hf:p.fs=p'.fs):Bw p p' =decide (p=p'):=by
 rw[lP,decide_eq_true_iff];obtain⟨⟩:=p;obtain⟨⟩:=p';simp only at hw hc hf;subst hw hc hf;unfold Bw lZ;simp only[Bool.and_true,cR,kX,Pk.mk.injEq,ai]
 constructor
 ·rintro⟨h1,h2,h3,h4,h5,h6,h7,h8,h9,h10,h11,h12,P8,P7,P6,Ni,P5,P4,RC,Rz,Ry⟩
  exact⟨h1,h2,h3,h9,P8,P7,h11,P6,h4,h12,h5,P4,RC,Rz,Ry,h6,h7,Ni,P5,h8,h10⟩
 ·rintro⟨h1,h2,h3,h9,P8,P7,h11,P6,h4,h12,h5,P4,RC,Rz,Ry,h6,h7,Ni,P5,h8,h10⟩
  exact⟨h1,h2,h3,h4,h5,h6,h7,h8,h9,h10,h11,h12,P8,P7,P6,Ni,P5,P4,RC,Rz,Ry⟩

theorem cI:∃d,Tryz.prog.underlying 29=some d/\d.isRow=true:=⟨_,underlying29,rfl⟩
theorem fR.UY {w:au}{p p' :Pk}{sw sc sf zO zR zQ:Value}(h1:fR w p sw sc sf)(h2:fR w p' zO zR zQ)(hl:p.wants.length<=1000000):
  ∀W,ae w W []->Calls prog 37 #[sw,zO] W (aJ W (decide (p.wants=p'.wants))):=by
 obtain⟨A,a,rfl,l1⟩:=h1.lw;obtain⟨A',a',rfl,NR⟩:=h2.lw;exact λW hk=>Bx W _ _ _ _ _ _ (l1.keeps hk) (NR.keeps hk) hl
theorem fR.U0 {w:au}{p p' :Pk}{sw sc sf zO zR zQ:Value}(h1:fR w p sw sc sf)(h2:fR w p' zO zR zQ)(hl:p.aF.length<=1000000):
  ∀W,ae w W []->Calls prog 38 #[sc,zR] W (aJ W (decide (p.aF=p'.aF))):=by
 obtain⟨A,a,rfl,l1⟩:=h1.lc;obtain⟨A',a',rfl,NR⟩:=h2.lc;exact λW hk=>DB W _ _ _ _ _ _ (l1.keeps hk) (NR.keeps hk) hl
theorem fR.UZ {w:au}{p p' :Pk}{sw sc sf zO zR zQ:Value}(h1:fR w p sw sc sf)(h2:fR w p' zO zR zQ)(hl:p.fs.length<=1000000):
  ∀W,ae w W []->Calls prog 39 #[sf,zQ] W (aJ W (decide (p.fs=p'.fs))):=by
 obtain⟨A,a,rfl,l1⟩:=h1.lf;obtain⟨A',a',rfl,NR⟩:=h2.lf;exact λW hk=>Bz W _ _ _ _ _ _ (l1.keeps hk) (NR.keeps hk) hl
theorem Cz (p p' :Pk)(sw sc sf zO zR zQ:Value)(w:au)(h1:fR w p sw sc sf)(h2:fR w p' zO zR zQ)(hl:p.wants.length<=1000000/\p.aF.length<=1000000/\p.fs.length<=1000000):
  Calls prog 17 #[eO p sw sc sf,eO p' zO zR zQ] w (aJ w (decide (p=p'))):=by
 have HF:=zh (λW=>And.intro (vN p sw sc sf W) (vN p' zO zR zQ W));have HE:=zh (And.intro (h1.UY h2 hl.1) (And.intro (h1.U0 h2 hl.2.1) (h1.UZ h2 hl.2.2)));obtain⟨c4,Re⟩:∃x,Bw p p' =x:=⟨_,rfl⟩;have HD:=zh (show p.wants=p'.wants->p.aF=p'.aF->p.fs=p'.fs->c4=decide (p=p')from Re▸Hj);have VG:=zh (show∀W,(Op.equalIn 10000 83 (yf p) (yf p')).run prog W= .ok c4 W from λW=>Re▸GF 9997 p p' W);clear Re;have HN:=zh (show(decide (p.wants=p'.wants)=false->decide (p=p')=false)/\(decide (p.aF=p'.aF)=false->decide (p=p')=false)/\(decide (p.fs=p'.fs)=false->decide (p=p')=false)from⟨λh=>aZ λe=>xo h (e▸rfl),λh=>aZ λe=>xo h (e▸rfl),λh=>aZ λe=>xo h (e▸rfl)⟩);clear h1 h2 hl;obtain⟨k,dup,ret,q,t,b,id,c,cl,keep,hw,wt,wb,wq,wr,hu,hp,u,pw,pr,code,wants,aF,fs⟩:=p;obtain⟨k1,OH,NF,q1,t1,b1,SM,c1,Ts,KC,oB,Sq,St,Ss,Sr,hu1,S0,u1,Sy,Sz,KN,K7,Mf,UX⟩:=p';obtain⟨W0,aV⟩:∃W,(w).alloc (.cells (zP k dup ret q t b id c cl keep hw wt wb wq wr hu hp u pw pr code sw sc sf) 29)=W:=⟨_,rfl⟩;have SG:ae (w) W0 []:=by rw[<-aV];exact ae.alloc _ _
 have PH:Row W0 (w).heap.size 29 (zP k dup ret q t b id c cl keep hw wt wb wq wr hu hp u pw pr code sw sc sf):=by rw[<-aV];exact Row.new _ _ _
 obtain⟨W1,hW1⟩:∃W,(W0).alloc (.cells (zP k1 OH NF q1 t1 b1 SM c1 Ts KC oB Sq St Ss Sr hu1 S0 u1 Sy Sz KN zO zR zQ) 29)=W:=⟨_,rfl⟩;have NS:ae (W0) W1 []:=by rw[<-hW1];exact ae.alloc _ _
 have Qu:Row W1 (W0).heap.size 29 (zP k1 OH NF q1 t1 b1 SM c1 Ts KC oB Sq St Ss Sr hu1 S0 u1 Sy Sz KN zO zR zQ):=by rw[<-hW1];exact Row.new _ _ _
 have s0:W0.heap.size=w.heap.size+1:=by rw[<-aV];simp
 have PH:=PH.keep NS (by simp);have NS:=SG.ah NS;rw[s0]at Qu;have HR:=zh (And.intro NS (And.intro PH Qu));clear PH Qu NS SG
 go_enter func17,ntmps17
 go_wp2_with fail
 have My:=zh HR.o.2;have M0:=λ(W' :au) (hW:ae (W1) W' [])=>((HR.o.2.1).keeps hW).cell 0
 have M1:=λ(W' :au) (hW:ae (W1) W' [])=>((HR.o.2.1).keeps hW).cell 1
 have M2:=λ(W' :au) (hW:ae (W1) W' [])=>((HR.o.2.1).keeps hW).cell 2
 have M3:=λ(W' :au) (hW:ae (W1) W' [])=>((HR.o.2.1).keeps hW).cell 3
 have M4:=λ(W' :au) (hW:ae (W1) W' [])=>((HR.o.2.1).keeps hW).cell 4
 have M5:=λ(W' :au) (hW:ae (W1) W' [])=>((HR.o.2.1).keeps hW).cell 5
 have M6:=λ(W' :au) (hW:ae (W1) W' [])=>((HR.o.2.1).keeps hW).cell 6
 have M7:=λ(W' :au) (hW:ae (W1) W' [])=>((HR.o.2.1).keeps hW).cell 7
 have M8:=λ(W' :au) (hW:ae (W1) W' [])=>((HR.o.2.1).keeps hW).cell 8
 have M9:=λ(W' :au) (hW:ae (W1) W' [])=>((HR.o.2.1).keeps hW).cell 9
 have KW:=λ(W' :au) (hW:ae (W1) W' [])=>((HR.o.2.1).keeps hW).cell 10
 have Mr:=λ(W' :au) (hW:ae (W1) W' [])=>((HR.o.2.1).keeps hW).cell 11
 have Mq:=λ(W' :au) (hW:ae (W1) W' [])=>((HR.o.2.1).keeps hW).cell 12
 have KV:=λ(W' :au) (hW:ae (W1) W' [])=>((HR.o.2.1).keeps hW).cell 13
 have KU:=λ(W' :au) (hW:ae (W1) W' [])=>((HR.o.2.1).keeps hW).cell 14
 have KT:=λ(W' :au) (hW:ae (W1) W' [])=>((HR.o.2.1).keeps hW).cell 15
 have KS:=λ(W' :au) (hW:ae (W1) W' [])=>((HR.o.2.1).keeps hW).cell 16
 have Mp:=λ(W' :au) (hW:ae (W1) W' [])=>((HR.o.2.1).keeps hW).cell 17
 have Mn:=λ(W' :au) (hW:ae (W1) W' [])=>((HR.o.2.1).keeps hW).cell 18
 have I3:=λ(W' :au) (hW:ae (W1) W' [])=>((HR.o.2.1).keeps hW).cell 19
 have I2:=λ(W' :au) (hW:ae (W1) W' [])=>((HR.o.2.1).keeps hW).cell 20
 have Is:=λ(W' :au) (hW:ae (W1) W' [])=>((HR.o.2.1).keeps hW).cell 21
 have I0:=λ(W' :au) (hW:ae (W1) W' [])=>((HR.o.2.1).keeps hW).cell 22
 have Kh:=λ(W' :au) (hW:ae (W1) W' [])=>((HR.o.2.1).keeps hW).cell 23
 simp only[cg,bU,fe]at M0 M1 M2 M3 M4 M5 M6 M7 M8 M9 KW Mr Mq KV KU KT KS Mp Mn I3 I2 Is I0 Kh;have N0:=λ(W' :au) (hW:ae (W1) W' [])=>((HR.o.2.2).keeps hW).cell 0
 have N1:=λ(W' :au) (hW:ae (W1) W' [])=>((HR.o.2.2).keeps hW).cell 1
 have N2:=λ(W' :au) (hW:ae (W1) W' [])=>((HR.o.2.2).keeps hW).cell 2
 have N3:=λ(W' :au) (hW:ae (W1) W' [])=>((HR.o.2.2).keeps hW).cell 3
 have N4:=λ(W' :au) (hW:ae (W1) W' [])=>((HR.o.2.2).keeps hW).cell 4
 have N5:=λ(W' :au) (hW:ae (W1) W' [])=>((HR.o.2.2).keeps hW).cell 5
 have N6:=λ(W' :au) (hW:ae (W1) W' [])=>((HR.o.2.2).keeps hW).cell 6
 have N7:=λ(W' :au) (hW:ae (W1) W' [])=>((HR.o.2.2).keeps hW).cell 7
 have N8:=λ(W' :au) (hW:ae (W1) W' [])=>((HR.o.2.2).keeps hW).cell 8
 have N9:=λ(W' :au) (hW:ae (W1) W' [])=>((HR.o.2.2).keeps hW).cell 9
 have Vs:=λ(W' :au) (hW:ae (W1) W' [])=>((HR.o.2.2).keeps hW).cell 10
 have Vr:=λ(W' :au) (hW:ae (W1) W' [])=>((HR.o.2.2).keeps hW).cell 11
 have Vq:=λ(W' :au) (hW:ae (W1) W' [])=>((HR.o.2.2).keeps hW).cell 12
 have Vp:=λ(W' :au) (hW:ae (W1) W' [])=>((HR.o.2.2).keeps hW).cell 13
 have Vo:=λ(W' :au) (hW:ae (W1) W' [])=>((HR.o.2.2).keeps hW).cell 14
 have Vn:=λ(W' :au) (hW:ae (W1) W' [])=>((HR.o.2.2).keeps hW).cell 15
 have Vm:=λ(W' :au) (hW:ae (W1) W' [])=>((HR.o.2.2).keeps hW).cell 16
 have Vl:=λ(W' :au) (hW:ae (W1) W' [])=>((HR.o.2.2).keeps hW).cell 17
 have Vk:=λ(W' :au) (hW:ae (W1) W' [])=>((HR.o.2.2).keeps hW).cell 18
 have Vj:=λ(W' :au) (hW:ae (W1) W' [])=>((HR.o.2.2).keeps hW).cell 19
 have Vi:=λ(W' :au) (hW:ae (W1) W' [])=>((HR.o.2.2).keeps hW).cell 20
 have OV:=λ(W' :au) (hW:ae (W1) W' [])=>((HR.o.2.2).keeps hW).cell 21
 have Qb:=λ(W' :au) (hW:ae (W1) W' [])=>((HR.o.2.2).keeps hW).cell 22
 have RL:=λ(W' :au) (hW:ae (W1) W' [])=>((HR.o.2.2).keeps hW).cell 23
 simp only[cg,bU,fe]at N0 N1 N2 N3 N4 N5 N6 N7 N8 N9 Vs Vr Vq Vp Vo Vn Vm Vl Vk Vj Vi OV Qb RL;obtain⟨c1,hc1⟩:∃x,decide (wants=K7)=x:=⟨_,rfl⟩;obtain⟨c2,gO⟩:∃x,decide (aF=Mf)=x:=⟨_,rfl⟩;obtain⟨c3,Rf⟩:∃x,decide (fs=UX)=x:=⟨_,rfl⟩;simp only[hc1,gO,Rf]at HE;have HC:=zh (And.intro hc1 (And.intro gO Rf));have HK:=zh HR.o.1;clear hc1 gO Rf HR
 cases c1
 ·skip
  refine cE ax _ 26 (by kernel_rfl) rfl (by kernel_rfl) (λ_=>ae.refl _ _) (λ_ _ _ h k=>h.trans k (by simp)) (ae.drew _) ?_;simp only[dc,dg,dF,dK];refine ls ?_;simp only[af];apply ak
  ·intro W vals hW ag
   simp only[knows]at ag
   try simp only[ai]at ag
   clear ag;have m0:=Is W hW;refine⟨?_⟩;simp only[fill];go_simp
   first | exact⟨ae.refl _ _,rfl⟩ | exact⟨ae.alloc _ _,rfl⟩
  simp only[af];refine ls ?_;simp only[af];apply ak
  ·intro W vals hW ag
   simp only[knows]at ag
   try simp only[ai]at ag
   clear ag;have m0:=OV W hW;refine⟨?_⟩;simp only[fill];go_simp
   first | exact⟨ae.refl _ _,rfl⟩ | exact⟨ae.alloc _ _,rfl⟩
  simp only[af];apply ak
  ·intro W vals hW ag
   clear ag;refine⟨?_⟩;simp only[fill];go_simp;refine aC ?_;exact(HE.o.1 W (HK.o.ah hW)).mono (by rintro e w2 ⟨rfl,hk⟩;exact⟨_,rfl,hk,rfl⟩)
  simp only[af];refine ls ?_
  iterate 5
   simp only[af];refine lo ?_
  iterate 2
   simp only[af];refine ls ?_
  iterate 5
   simp only[af];refine lo ?_
  iterate 2
   simp only[af];refine ls ?_
  iterate 5
   simp only[af];refine lo ?_
  simp only[af];refine ls ?_;simp only[af];refine aq (λW vals hW ag=> ?_);simp only[aw]at ag
  try simp only[ai]at ag
  simp only[fill,Act.put,bo,bn,bh]
  go_wp2_with fail
  go_ret;exact⟨by rw[HN.o.1 HC.o.1];rfl,HK.o.ah hW⟩
 cases c2
 ·skip
  refine cE ax _ 26 (by kernel_rfl) rfl (by kernel_rfl) (λ_=>ae.refl _ _) (λ_ _ _ h k=>h.trans k (by simp)) (ae.drew _) ?_;simp only[dc,dg,dF,dK];refine ls ?_;simp only[af];apply ak
  ·intro W vals hW ag
   simp only[knows]at ag
   try simp only[ai]at ag
   clear ag;have m0:=Is W hW;refine⟨?_⟩;simp only[fill];go_simp
   first | exact⟨ae.refl _ _,rfl⟩ | exact⟨ae.alloc _ _,rfl⟩
  simp only[af];refine ls ?_;simp only[af];apply ak
  ·intro W vals hW ag
   simp only[knows]at ag
   try simp only[ai]at ag
   clear ag;have m0:=OV W hW;refine⟨?_⟩;simp only[fill];go_simp
   first | exact⟨ae.refl _ _,rfl⟩ | exact⟨ae.alloc _ _,rfl⟩
  simp only[af];apply ak
  ·intro W vals hW ag
   clear ag;refine⟨?_⟩;simp only[fill];go_simp;refine aC ?_;exact(HE.o.1 W (HK.o.ah hW)).mono (by rintro e w2 ⟨rfl,hk⟩;exact⟨_,rfl,hk,rfl⟩)
  iterate 2
   simp only[af];refine ls ?_
  simp only[af];apply ak
  ·intro W vals hW ag
   simp only[knows]at ag
   try simp only[ai]at ag
   clear ag;have m0:=I0 W hW;refine⟨?_⟩;simp only[fill];go_simp
   first | exact⟨ae.refl _ _,rfl⟩ | exact⟨ae.alloc _ _,rfl⟩
  simp only[af];refine ls ?_;simp only[af];apply ak
  ·intro W vals hW ag
   simp only[knows]at ag
   try simp only[ai]at ag
   clear ag;have m0:=Qb W hW;refine⟨?_⟩;simp only[fill];go_simp
   first | exact⟨ae.refl _ _,rfl⟩ | exact⟨ae.alloc _ _,rfl⟩
  simp only[af];apply ak
  ·intro W vals hW ag
   clear ag;refine⟨?_⟩;simp only[fill];go_simp;refine aC ?_;exact(HE.o.2.1 W (HK.o.ah hW)).mono (by rintro e w2 ⟨rfl,hk⟩;exact⟨_,rfl,hk,rfl⟩)
  iterate 2
   simp only[af];refine ls ?_
  iterate 5
   simp only[af];refine lo ?_
  iterate 2
   simp only[af];refine ls ?_
  iterate 5
   simp only[af];refine lo ?_
  simp only[af];refine ls ?_;simp only[af];refine aq (λW vals hW ag=> ?_);simp only[aw]at ag
  try simp only[ai]at ag
  simp only[fill,Act.put,bo,bn,bh]
  go_wp2_with fail
  go_ret;exact⟨by rw[HN.o.2.1 HC.o.2.1];rfl,HK.o.ah hW⟩
 cases c3
 ·skip
  refine cE ax _ 26 (by kernel_rfl) rfl (by kernel_rfl) (λ_=>ae.refl _ _) (λ_ _ _ h k=>h.trans k (by simp)) (ae.drew _) ?_;simp only[dc,dg,dF,dK];refine ls ?_;simp only[af];apply ak
  ·intro W vals hW ag
   simp only[knows]at ag
   try simp only[ai]at ag
   clear ag;have m0:=Is W hW;refine⟨?_⟩;simp only[fill];go_simp
   first | exact⟨ae.refl _ _,rfl⟩ | exact⟨ae.alloc _ _,rfl⟩
  simp only[af];refine ls ?_;simp only[af];apply ak
  ·intro W vals hW ag
   simp only[knows]at ag
   try simp only[ai]at ag
   clear ag;have m0:=OV W hW;refine⟨?_⟩;simp only[fill];go_simp
   first | exact⟨ae.refl _ _,rfl⟩ | exact⟨ae.alloc _ _,rfl⟩
  simp only[af];apply ak
  ·intro W vals hW ag
   clear ag;refine⟨?_⟩;simp only[fill];go_simp;refine aC ?_;exact(HE.o.1 W (HK.o.ah hW)).mono (by rintro e w2 ⟨rfl,hk⟩;exact⟨_,rfl,hk,rfl⟩)
  iterate 2
   simp only[af];refine ls ?_
  simp only[af];apply ak
  ·intro W vals hW ag
   simp only[knows]at ag
   try simp only[ai]at ag
   clear ag;have m0:=I0 W hW;refine⟨?_⟩;simp only[fill];go_simp
   first | exact⟨ae.refl _ _,rfl⟩ | exact⟨ae.alloc _ _,rfl⟩
  simp only[af];refine ls ?_;simp only[af];apply ak
  ·intro W vals hW ag
   simp only[knows]at ag
   try simp only[ai]at ag
   clear ag;have m0:=Qb W hW;refine⟨?_⟩;simp only[fill];go_simp
   first | exact⟨ae.refl _ _,rfl⟩ | exact⟨ae.alloc _ _,rfl⟩
  simp only[af];apply ak
  ·intro W vals hW ag
   clear ag;refine⟨?_⟩;simp only[fill];go_simp;refine aC ?_;exact(HE.o.2.1 W (HK.o.ah hW)).mono (by rintro e w2 ⟨rfl,hk⟩;exact⟨_,rfl,hk,rfl⟩)
  iterate 3
   simp only[af];refine ls ?_
  simp only[af];apply ak
  ·intro W vals hW ag
   simp only[knows]at ag
   try simp only[ai]at ag
   clear ag;have m0:=Kh W hW;refine⟨?_⟩;simp only[fill];go_simp
   first | exact⟨ae.refl _ _,rfl⟩ | exact⟨ae.alloc _ _,rfl⟩
  simp only[af];refine ls ?_;simp only[af];apply ak
  ·intro W vals hW ag
   simp only[knows]at ag
   try simp only[ai]at ag
   clear ag;have m0:=RL W hW;refine⟨?_⟩;simp only[fill];go_simp
   first | exact⟨ae.refl _ _,rfl⟩ | exact⟨ae.alloc _ _,rfl⟩
  simp only[af];apply ak
  ·intro W vals hW ag
   clear ag;refine⟨?_⟩;simp only[fill];go_simp;refine aC ?_;exact(HE.o.2.2 W (HK.o.ah hW)).mono (by rintro e w2 ⟨rfl,hk⟩;exact⟨_,rfl,hk,rfl⟩)
  iterate 2
   simp only[af];refine ls ?_
  iterate 5
   simp only[af];refine lo ?_
  simp only[af];refine ls ?_;simp only[af];refine aq (λW vals hW ag=> ?_);simp only[aw]at ag
  try simp only[ai]at ag
  simp only[fill,Act.put,bo,bn,bh]
  go_wp2_with fail
  go_ret;exact⟨by rw[HN.o.2.2 HC.o.2.2];rfl,HK.o.ah hW⟩
 refine cE ax _ 26 (by kernel_rfl) rfl (by kernel_rfl) (λ_=>ae.refl _ _) (λ_ _ _ h k=>h.trans k (by simp)) (ae.drew _) ?_;simp only[dc,dg,dF,dK];refine ls ?_;simp only[af];apply ak
 ·intro W vals hW ag
  simp only[knows]at ag
  try simp only[ai]at ag
  clear ag;have m0:=Is W hW;refine⟨?_⟩;simp only[fill];go_simp
  first | exact⟨ae.refl _ _,rfl⟩ | exact⟨ae.alloc _ _,rfl⟩
 simp only[af];refine ls ?_;simp only[af];apply ak
 ·intro W vals hW ag
  simp only[knows]at ag
  try simp only[ai]at ag
  clear ag;have m0:=OV W hW;refine⟨?_⟩;simp only[fill];go_simp
  first | exact⟨ae.refl _ _,rfl⟩ | exact⟨ae.alloc _ _,rfl⟩
 simp only[af];apply ak
 ·intro W vals hW ag
  clear ag;refine⟨?_⟩;simp only[fill];go_simp;refine aC ?_;exact(HE.o.1 W (HK.o.ah hW)).mono (by rintro e w2 ⟨rfl,hk⟩;exact⟨_,rfl,hk,rfl⟩)
 iterate 2
  simp only[af];refine ls ?_
 simp only[af];apply ak
 ·intro W vals hW ag
  simp only[knows]at ag
  try simp only[ai]at ag
  clear ag;have m0:=I0 W hW;refine⟨?_⟩;simp only[fill];go_simp
  first | exact⟨ae.refl _ _,rfl⟩ | exact⟨ae.alloc _ _,rfl⟩
 simp only[af];refine ls ?_;simp only[af];apply ak
 ·intro W vals hW ag
  simp only[knows]at ag
  try simp only[ai]at ag
  clear ag;have m0:=Qb W hW;refine⟨?_⟩;simp only[fill];go_simp
  first | exact⟨ae.refl _ _,rfl⟩ | exact⟨ae.alloc _ _,rfl⟩
 simp only[af];apply ak
 ·intro W vals hW ag
  clear ag;refine⟨?_⟩;simp only[fill];go_simp;refine aC ?_;exact(HE.o.2.1 W (HK.o.ah hW)).mono (by rintro e w2 ⟨rfl,hk⟩;exact⟨_,rfl,hk,rfl⟩)
 iterate 3
  simp only[af];refine ls ?_
 simp only[af];apply ak
 ·intro W vals hW ag
  simp only[knows]at ag
  try simp only[ai]at ag
  clear ag;have m0:=Kh W hW;refine⟨?_⟩;simp only[fill];go_simp
  first | exact⟨ae.refl _ _,rfl⟩ | exact⟨ae.alloc _ _,rfl⟩
 simp only[af];refine ls ?_;simp only[af];apply ak
 ·intro W vals hW ag
  simp only[knows]at ag
  try simp only[ai]at ag
  clear ag;have m0:=RL W hW;refine⟨?_⟩;simp only[fill];go_simp
  first | exact⟨ae.refl _ _,rfl⟩ | exact⟨ae.alloc _ _,rfl⟩
 simp only[af];apply ak
 ·intro W vals hW ag
  clear ag;refine⟨?_⟩;simp only[fill];go_simp;refine aC ?_;exact(HE.o.2.2 W (HK.o.ah hW)).mono (by rintro e w2 ⟨rfl,hk⟩;exact⟨_,rfl,hk,rfl⟩)
 iterate 2
  simp only[af];refine ls ?_
 simp only[af];apply ak
 ·intro W vals hW ag
  clear ag;simp only[fill];obtain⟨d,hu,hd⟩:=cI;refine kQ ?_ rfl ?_ (aD (My.o.1.keeps hW)) hu hd ?_ (ae.refl _ _) rfl
  ·go_simp
  ·go_simp
  ·kernel_rfl
 simp only[af];apply ak
 ·intro W vals hW ag
  clear ag;refine⟨?_⟩;simp only[fill];go_simp;refine aC ?_;exact(HF.o W).1.mono (by rintro e w2 ⟨rfl,hk⟩;exact⟨_,rfl,hk,rfl⟩)
 simp only[af];apply ak
 ·intro W vals hW ag
  clear ag;simp only[fill];obtain⟨d,hu,hd⟩:=cI;refine kQ ?_ rfl ?_ (aD (My.o.2.keeps hW)) hu hd ?_ (ae.refl _ _) rfl
  ·go_simp
  ·go_simp
  ·kernel_rfl
 simp only[af];apply ak
 ·intro W vals hW ag
  clear ag;refine⟨?_⟩;simp only[fill];go_simp;refine aC ?_;exact(HF.o W).2.mono (by rintro e w2 ⟨rfl,hk⟩;exact⟨_,rfl,hk,rfl⟩)
 simp only[af];apply ak
 ·intro W vals hW ag
  clear ag;simp only[fill];refine vP ?_ rfl ?_ ?_ ?_ VG.o (ae.refl _ _) rfl
  ·go_simp
  ·go_simp
  ·go_simp
  ·kernel_rfl
 simp only[af];refine ls ?_;simp only[af];refine aq (λW vals hW ag=> ?_);simp only[aw]at ag
 try simp only[ai]at ag
 simp only[fill,Act.put,bo,bn,bh]
 go_wp2_with fail
 go_ret;exact⟨by rw[<-HD.o (qj HC.o.1) (qj HC.o.2.1) (qj HC.o.2.2)];rfl,HK.o.ah hW⟩
end Go.Proofs.YtahbikfbjenfpaaGreatDoor
