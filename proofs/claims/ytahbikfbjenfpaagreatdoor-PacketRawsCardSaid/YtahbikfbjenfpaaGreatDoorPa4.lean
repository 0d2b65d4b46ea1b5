/- Package packet: all of a packet but its lists. Package packet: two plain packets held against each other. Package packet: are two packets the same? -/
import Derived.Test.YtahbikfbjenfpaaGreatDoorPa3
import Derived.Test.YtahbikfbjenfpaaGreatDoorPa2
import Derived.Deep.WholeRow

namespace Go.Proofs.YtahbikfbjenfpaaGreatDoor
open Go.RowKit

abbrev flatV (p:Pk):Value:= .agg #[.int .i64 p.k,.bool p.dup,.bool p.ret,.bool p.cl,.bool p.hw,.bool p.hu,.bool p.hp,.bool p.pr,.int .i64 p.q,.int .i64 p.code,.int .i64 p.id,.int .i64 p.keep,.string ⟨p.t.toArray⟩,.string ⟨p.b.toArray⟩,.string ⟨p.c.toArray⟩,.string ⟨p.u.toArray⟩,.string ⟨p.pw.toArray⟩,.string ⟨p.wt.toArray⟩,.string ⟨p.wb.toArray⟩,.int .i64 p.wq,.bool p.wr]
/-- A whole value is laid into the box that was made last. -/
theorem wpList_store_new {ops:Array Oper}{rest:List Oper}{op:Oper}{a:Act}{w:World}{Q:Exit→Act→World→Prop}{t:TypeId}(hgd:op.guard=none)(x y:Operand)(ho:op.op= .store t x y)(X Z:Array Value)(w1:World)(hw:w=w1.alloc (.cells Z t))(hi:(Tryz.prog.info? t).map (·.size)=some X.size)(hZ:Z.size=X.size)(h1:X.all (·.oneCell')=true)
  (hx:a.eval x= .pointer (some ⟨w1.heap.size,0,none⟩)) (hy:a.eval y= .agg X)
  (h:∀w',w1.alloc (.cells X t)=w' →Hid (wpList Tryz.prog ops Q rest (a.put op.dst undef) w')):wpList Tryz.prog ops Q (op::rest) a w:=by
 subst hw;refine wpList_plain hgd fun _ hK=> ?_
 unfold Oper.wp execOp;have hrun:=run_storeAt_new (P:=Tryz.prog) w1 t Z X hi hZ h1;simp only[ho,hx,hy,Sem.run_bind,hrun,Result.andThen_ok,Sem.run_pure];exact hK _ _ (h _ rfl).out
/-- A function's result, read out of its cells at once. -/
theorem results_row {f:Func}{t:Array Value}{w:World}{s:Nat}{ty:TypeId}{g:Nat}{cs:List Value}{d:TypeDesc}(hf:f.results= #[.cell s ty])(ht:t.getD s undef= .pointer (some ⟨g,0,none⟩))(hc:w.rangeAt g 0 cs)(hu:Tryz.prog.underlying ty=some d)(hd:d.isRow=true)(hi:(Tryz.prog.info? ty).map (·.size)=some cs.length):
  (results f t).run Tryz.prog w= .ok (.agg cs.toArray) w:=by
 have h:=run_loadVar_mid w g 0 ty cs d hc hu hd hi;rw[Array.getD_eq_getD_getElem?]at ht;simp[results,hf,ht,h,asAddr]
theorem undPlain:∃d,Tryz.prog.underlying 83=some d∧d.isRow=true:=⟨_,Tryz.underlying83,rfl⟩
set_option maxRecDepth 100000 in
set_option maxHeartbeats 2000000 in
theorem pkFlat_any (p:Pk)(sw sc sf:Value)(w:World):Calls Tryz.prog 40 #[pkV p sw sc sf] w fun e w' =>e= .returned (flatV p)∧Keeps w w' []:=by
 obtain⟨k,dup,ret,q,t,b,id,c,cl,keep,hw,wt,wb,wq,wr,hu,hp,u,pw,pr,code,wants,codes,fs⟩:=p;obtain⟨W0,hW0⟩:∃W,(w).alloc (.cells (zP k dup ret q t b id c cl keep hw wt wb wq wr hu hp u pw pr code sw sc sf) 29)=W:=⟨_,rfl⟩;have k0:Keeps (w) W0 []:=by rw[←hW0];exact Keeps.alloc _ _
 have r0:Row W0 (w).heap.size 29 (zP k dup ret q t b id c cl keep hw wt wb wq wr hu hp u pw pr code sw sc sf):=by rw[←hW0];exact Row.new _ _ _
 have HR:=zh (And.intro k0 r0);clear k0 r0;obtain⟨W1,hW1⟩:∃W1,W0.alloc (.cells #[.int .i64 0,.bool false,.bool false,.bool false,.bool false,.bool false,.bool false,.bool false,.int .i64 0,.int .i64 0,.int .i64 0,.int .i64 0,.string ⟨#[]⟩,.string ⟨#[]⟩,.string ⟨#[]⟩,.string ⟨#[]⟩,.string ⟨#[]⟩,.string ⟨#[]⟩,.string ⟨#[]⟩,.int .i64 0,.bool false] 83)=W1:=⟨_,rfl⟩;have r1:Row W1 w.heap.size 29 (zP k dup ret q t b id c cl keep hw wt wb wq wr hu hp u pw pr code sw sc sf):=by rw[←hW1];exact HR.out.2.alloc _
 have x0:=r1.cell 0;have x1:=r1.cell 1;have x2:=r1.cell 2;have x3:=r1.cell 3;have x4:=r1.cell 4;have x5:=r1.cell 5;have x6:=r1.cell 6;have x7:=r1.cell 7;have x8:=r1.cell 8;have x9:=r1.cell 9;have x10:=r1.cell 10;have x11:=r1.cell 11;have x12:=r1.cell 12;have x13:=r1.cell 13;have x14:=r1.cell 14;have x15:=r1.cell 15;have x16:=r1.cell 16;have x17:=r1.cell 17;have x18:=r1.cell 18;have x19:=r1.cell 19;have x20:=r1.cell 20;have x21:=r1.cell 21;have x22:=r1.cell 22;have x23:=r1.cell 23;simp only[zga,zgz,zgs]at x0 x1 x2 x3 x4 x5 x6 x7 x8 x9 x10 x11 x12 x13 x14 x15 x16 x17 x18 x19 x20 x21 x22 x23;clear r1;have HK:=zh HR.out.1;clear HR
 go_enter Tryz.func40,Tryz.ntmps40
 go_wp2_with (refine wpList_store_new rfl (.tmp 2) (.tmp 39) rfl #[.int .i64 k,.bool dup,.bool ret,.bool cl,.bool hw,.bool hu,.bool hp,.bool pr,.int .i64 q,.int .i64 code,.int .i64 id,.int .i64 keep,.string ⟨t.toArray⟩,.string ⟨b.toArray⟩,.string ⟨c.toArray⟩,.string ⟨u.toArray⟩,.string ⟨pw.toArray⟩,.string ⟨wt.toArray⟩,.string ⟨wb.toArray⟩,.int .i64 wq,.bool wr] #[.int .i64 0,.bool false,.bool false,.bool false,.bool false,.bool false,.bool false,.bool false,.int .i64 0,.int .i64 0,.int .i64 0,.int .i64 0,.string ⟨#[]⟩,.string ⟨#[]⟩,.string ⟨#[]⟩,.string ⟨#[]⟩,.string ⟨#[]⟩,.string ⟨#[]⟩,.string ⟨#[]⟩,.int .i64 0,.bool false] W0 hW1.symm (by kernel_rfl) rfl (by simp[Value.oneCell']) rfl rfl ?_;intro w5 hw5)
 refine zh ?_;obtain⟨X,hX⟩:∃X:Array Value, #[.int .i64 k,.bool dup,.bool ret,.bool cl,.bool hw,.bool hu,.bool hp,.bool pr,.int .i64 q,.int .i64 code,.int .i64 id,.int .i64 keep,.string ⟨t.toArray⟩,.string ⟨b.toArray⟩,.string ⟨c.toArray⟩,.string ⟨u.toArray⟩,.string ⟨pw.toArray⟩,.string ⟨wt.toArray⟩,.string ⟨wb.toArray⟩,.int .i64 wq,.bool wr]=X:=⟨_,rfl⟩;rw[hX]at hw5;have q9:Row w5 W0.heap.size 83 X:=by rw[←hw5];exact Row.new _ _ _
 have k9:Keeps W0 w5 []:=by rw[←hw5];exact Keeps.alloc _ _
 have H9:=zh (And.intro q9 (HK.out.then_ k9));clear x0 x1 x2 x3 x4 x5 x6 x7 x8 x9 x10 x11 x12 x13 x14 x15 x16 x17 x18 x19 x20 x21 x22 x23;clear k9 hW0 hW1 q9 hw5
 go_wp2_with fail
 obtain⟨d,hu,hd⟩:=undPlain;refine bodyPost_ret (results_row (s:=2) (cs:=X.toList) rfl rfl (range_row H9.out.1) hu hd (by rw[←hX];kernel_rfl)) rfl ⟨?_,H9.out.2⟩;rw[←hX]

theorem eqF_step {P : Program} {d : Nat} {xs ys : Array Value} {f : Field} {fs : List Field} {a b : Value} {r s : Bool} (hn : (f.name != "_") = true) (h1 : ∀ w, (part f.type xs f.offset).run P w = .ok a w) (h2 : ∀ w, (part f.type ys f.offset).run P w = .ok b w) (h3 : ∀ w, (Op.equalIn d f.type a b).run P w = .ok r w) (h4 : ∀ w, (Op.eqFields d xs ys fs).run P w = .ok s w) (w : World) :
  (Op.eqFields d xs ys (f::fs)).run P w= .ok (r && s) w:=by
 simp only[Op.eqFields,Sem.run_bind,Sem.run_ite,h1,h2,h3,h4,Result.andThen_ok];have hn' : ¬ f.name = "_" := by simpa using hn
 cases r <;> simp[hn']
theorem eqF_end {P:Program}{d:Nat}{xs ys:Array Value}(w:World):(Op.eqFields d xs ys []).run P w= .ok true w:=by
 simp[Op.eqFields]
def willB (p p' :Pk):Bool:=p.wt==p'.wt && (p.wb==p'.wb && (p.wq==p'.wq && (p.wr==p'.wr && true)))
def flatB (p p' :Pk):Bool:=p.k==p'.k && (p.dup==p'.dup && (p.ret==p'.ret && (p.cl==p'.cl && (p.hw==p'.hw && (p.hu==p'.hu && (p.hp==p'.hp && (p.pr==p'.pr && (p.q==p'.q && (p.code==p'.code && (p.id==p'.id && (p.keep==p'.keep && (p.t==p'.t && (p.b==p'.b && (p.c==p'.c && (p.u==p'.u && (p.pw==p'.pw && (willB p p' && true)))))))))))))))))
theorem eq_str {P:Program}(w:World)(d:Nat)(t:TypeId)(a b:List UInt8)(h:P.underlying t=some .string):(Op.equalIn (d+1) t (.string ⟨a.toArray⟩) (.string ⟨b.toArray⟩)).run P w= .ok (a==b) w:=by
 rw[run_equalIn_string w d t _ _ h];simp
set_option maxRecDepth 100000 in
theorem will_eq (d:Nat)(p p' :Pk)(w:World):(Op.equalIn (d+2) 24 (.agg #[.string ⟨p.wt.toArray⟩,.string ⟨p.wb.toArray⟩,.int .i64 p.wq,.bool p.wr]) (.agg #[.string ⟨p'.wt.toArray⟩,.string ⟨p'.wb.toArray⟩,.int .i64 p'.wq,.bool p'.wr])).run Tryz.prog w= .ok (willB p p') w:=by
 have hS:Tryz.prog.underlying 24=some (.struct (Tryz.prog.fieldsOf 24)):=by kernel_rfl
 have hp:Tryz.prog.stoodInHeld 24=false:=by kernel_rfl
 unfold willB;rw[run_equalIn_struct w (d+1) _ _ _ hS hp];simp only[Program.fieldsOf,Tryz.underlying24];refine(eqF_step (a:= .string ⟨p.wt.toArray⟩) (b:= .string ⟨p'.wt.toArray⟩) (r:=(p.wt==p'.wt)) rfl (fun w=> ?_) (fun w=> ?_) (fun w=> ?_) (fun w=> ?_) w)
 ·go_simp
 ·go_simp
 ·first | exact run_equalIn_int w _ _ _ .i64 _ _ (by kernel_rfl) | exact run_equalIn_bool' w _ _ _ _ (by kernel_rfl) | exact eq_str w _ _ _ _ (by kernel_rfl)
 refine(eqF_step (a:= .string ⟨p.wb.toArray⟩) (b:= .string ⟨p'.wb.toArray⟩) (r:=(p.wb==p'.wb)) rfl (fun w=> ?_) (fun w=> ?_) (fun w=> ?_) (fun w=> ?_) w)
 ·go_simp
 ·go_simp
 ·first | exact run_equalIn_int w _ _ _ .i64 _ _ (by kernel_rfl) | exact run_equalIn_bool' w _ _ _ _ (by kernel_rfl) | exact eq_str w _ _ _ _ (by kernel_rfl)
 refine(eqF_step (a:= .int .i64 p.wq) (b:= .int .i64 p'.wq) (r:=(p.wq==p'.wq)) rfl (fun w=> ?_) (fun w=> ?_) (fun w=> ?_) (fun w=> ?_) w)
 ·go_simp
 ·go_simp
 ·first | exact run_equalIn_int w _ _ _ .i64 _ _ (by kernel_rfl) | exact run_equalIn_bool' w _ _ _ _ (by kernel_rfl) | exact eq_str w _ _ _ _ (by kernel_rfl)
 refine(eqF_step (a:= .bool p.wr) (b:= .bool p'.wr) (r:=(p.wr==p'.wr)) rfl (fun w=> ?_) (fun w=> ?_) (fun w=> ?_) (fun w=> ?_) w)
 ·go_simp
 ·go_simp
 ·first | exact run_equalIn_int w _ _ _ .i64 _ _ (by kernel_rfl) | exact run_equalIn_bool' w _ _ _ _ (by kernel_rfl) | exact eq_str w _ _ _ _ (by kernel_rfl)
 exact eqF_end w
set_option maxRecDepth 100000 in
theorem plain_eq (d:Nat)(p p' :Pk)(w:World):(Op.equalIn (d+3) 83 (flatV p) (flatV p')).run Tryz.prog w= .ok (flatB p p') w:=by
 have hS:Tryz.prog.underlying 83=some (.struct (Tryz.prog.fieldsOf 83)):=by kernel_rfl
 have hp:Tryz.prog.stoodInHeld 83=false:=by kernel_rfl
 unfold flatV flatB;rw[run_equalIn_struct w (d+2) _ _ _ hS hp];simp only[Program.fieldsOf,Tryz.underlying83];refine(eqF_step (a:= .int .i64 p.k) (b:= .int .i64 p'.k) (r:=(p.k==p'.k)) rfl (fun w=> ?_) (fun w=> ?_) (fun w=> ?_) (fun w=> ?_) w)
 ·go_simp
 ·go_simp
 ·first | exact run_equalIn_int w _ _ _ .i64 _ _ (by kernel_rfl) | exact run_equalIn_bool' w _ _ _ _ (by kernel_rfl) | exact eq_str w _ _ _ _ (by kernel_rfl)
 refine(eqF_step (a:= .bool p.dup) (b:= .bool p'.dup) (r:=(p.dup==p'.dup)) rfl (fun w=> ?_) (fun w=> ?_) (fun w=> ?_) (fun w=> ?_) w)
 ·go_simp
 ·go_simp
 ·first | exact run_equalIn_int w _ _ _ .i64 _ _ (by kernel_rfl) | exact run_equalIn_bool' w _ _ _ _ (by kernel_rfl) | exact eq_str w _ _ _ _ (by kernel_rfl)
 refine(eqF_step (a:= .bool p.ret) (b:= .bool p'.ret) (r:=(p.ret==p'.ret)) rfl (fun w=> ?_) (fun w=> ?_) (fun w=> ?_) (fun w=> ?_) w)
 ·go_simp
 ·go_simp
 ·first | exact run_equalIn_int w _ _ _ .i64 _ _ (by kernel_rfl) | exact run_equalIn_bool' w _ _ _ _ (by kernel_rfl) | exact eq_str w _ _ _ _ (by kernel_rfl)
 refine(eqF_step (a:= .bool p.cl) (b:= .bool p'.cl) (r:=(p.cl==p'.cl)) rfl (fun w=> ?_) (fun w=> ?_) (fun w=> ?_) (fun w=> ?_) w)
 ·go_simp
 ·go_simp
 ·first | exact run_equalIn_int w _ _ _ .i64 _ _ (by kernel_rfl) | exact run_equalIn_bool' w _ _ _ _ (by kernel_rfl) | exact eq_str w _ _ _ _ (by kernel_rfl)
 refine(eqF_step (a:= .bool p.hw) (b:= .bool p'.hw) (r:=(p.hw==p'.hw)) rfl (fun w=> ?_) (fun w=> ?_) (fun w=> ?_) (fun w=> ?_) w)
 ·go_simp
 ·go_simp
 ·first | exact run_equalIn_int w _ _ _ .i64 _ _ (by kernel_rfl) | exact run_equalIn_bool' w _ _ _ _ (by kernel_rfl) | exact eq_str w _ _ _ _ (by kernel_rfl)
 refine(eqF_step (a:= .bool p.hu) (b:= .bool p'.hu) (r:=(p.hu==p'.hu)) rfl (fun w=> ?_) (fun w=> ?_) (fun w=> ?_) (fun w=> ?_) w)
 ·go_simp
 ·go_simp
 ·first | exact run_equalIn_int w _ _ _ .i64 _ _ (by kernel_rfl) | exact run_equalIn_bool' w _ _ _ _ (by kernel_rfl) | exact eq_str w _ _ _ _ (by kernel_rfl)
 refine(eqF_step (a:= .bool p.hp) (b:= .bool p'.hp) (r:=(p.hp==p'.hp)) rfl (fun w=> ?_) (fun w=> ?_) (fun w=> ?_) (fun w=> ?_) w)
 ·go_simp
 ·go_simp
 ·first | exact run_equalIn_int w _ _ _ .i64 _ _ (by kernel_rfl) | exact run_equalIn_bool' w _ _ _ _ (by kernel_rfl) | exact eq_str w _ _ _ _ (by kernel_rfl)
 refine(eqF_step (a:= .bool p.pr) (b:= .bool p'.pr) (r:=(p.pr==p'.pr)) rfl (fun w=> ?_) (fun w=> ?_) (fun w=> ?_) (fun w=> ?_) w)
 ·go_simp
 ·go_simp
 ·first | exact run_equalIn_int w _ _ _ .i64 _ _ (by kernel_rfl) | exact run_equalIn_bool' w _ _ _ _ (by kernel_rfl) | exact eq_str w _ _ _ _ (by kernel_rfl)
 refine(eqF_step (a:= .int .i64 p.q) (b:= .int .i64 p'.q) (r:=(p.q==p'.q)) rfl (fun w=> ?_) (fun w=> ?_) (fun w=> ?_) (fun w=> ?_) w)
 ·go_simp
 ·go_simp
 ·first | exact run_equalIn_int w _ _ _ .i64 _ _ (by kernel_rfl) | exact run_equalIn_bool' w _ _ _ _ (by kernel_rfl) | exact eq_str w _ _ _ _ (by kernel_rfl)
 refine(eqF_step (a:= .int .i64 p.code) (b:= .int .i64 p'.code) (r:=(p.code==p'.code)) rfl (fun w=> ?_) (fun w=> ?_) (fun w=> ?_) (fun w=> ?_) w)
 ·go_simp
 ·go_simp
 ·first | exact run_equalIn_int w _ _ _ .i64 _ _ (by kernel_rfl) | exact run_equalIn_bool' w _ _ _ _ (by kernel_rfl) | exact eq_str w _ _ _ _ (by kernel_rfl)
 refine(eqF_step (a:= .int .i64 p.id) (b:= .int .i64 p'.id) (r:=(p.id==p'.id)) rfl (fun w=> ?_) (fun w=> ?_) (fun w=> ?_) (fun w=> ?_) w)
 ·go_simp
 ·go_simp
 ·first | exact run_equalIn_int w _ _ _ .i64 _ _ (by kernel_rfl) | exact run_equalIn_bool' w _ _ _ _ (by kernel_rfl) | exact eq_str w _ _ _ _ (by kernel_rfl)
 refine(eqF_step (a:= .int .i64 p.keep) (b:= .int .i64 p'.keep) (r:=(p.keep==p'.keep)) rfl (fun w=> ?_) (fun w=> ?_) (fun w=> ?_) (fun w=> ?_) w)
 ·go_simp
 ·go_simp
 ·first | exact run_equalIn_int w _ _ _ .i64 _ _ (by kernel_rfl) | exact run_equalIn_bool' w _ _ _ _ (by kernel_rfl) | exact eq_str w _ _ _ _ (by kernel_rfl)
 refine(eqF_step (a:= .string ⟨p.t.toArray⟩) (b:= .string ⟨p'.t.toArray⟩) (r:=(p.t==p'.t)) rfl (fun w=> ?_) (fun w=> ?_) (fun w=> ?_) (fun w=> ?_) w)
 ·go_simp
 ·go_simp
 ·first | exact run_equalIn_int w _ _ _ .i64 _ _ (by kernel_rfl) | exact run_equalIn_bool' w _ _ _ _ (by kernel_rfl) | exact eq_str w _ _ _ _ (by kernel_rfl)
 refine(eqF_step (a:= .string ⟨p.b.toArray⟩) (b:= .string ⟨p'.b.toArray⟩) (r:=(p.b==p'.b)) rfl (fun w=> ?_) (fun w=> ?_) (fun w=> ?_) (fun w=> ?_) w)
 ·go_simp
 ·go_simp
 ·first | exact run_equalIn_int w _ _ _ .i64 _ _ (by kernel_rfl) | exact run_equalIn_bool' w _ _ _ _ (by kernel_rfl) | exact eq_str w _ _ _ _ (by kernel_rfl)
 refine(eqF_step (a:= .string ⟨p.c.toArray⟩) (b:= .string ⟨p'.c.toArray⟩) (r:=(p.c==p'.c)) rfl (fun w=> ?_) (fun w=> ?_) (fun w=> ?_) (fun w=> ?_) w)
 ·go_simp
 ·go_simp
 ·first | exact run_equalIn_int w _ _ _ .i64 _ _ (by kernel_rfl) | exact run_equalIn_bool' w _ _ _ _ (by kernel_rfl) | exact eq_str w _ _ _ _ (by kernel_rfl)
 refine(eqF_step (a:= .string ⟨p.u.toArray⟩) (b:= .string ⟨p'.u.toArray⟩) (r:=(p.u==p'.u)) rfl (fun w=> ?_) (fun w=> ?_) (fun w=> ?_) (fun w=> ?_) w)
 ·go_simp
 ·go_simp
 ·first | exact run_equalIn_int w _ _ _ .i64 _ _ (by kernel_rfl) | exact run_equalIn_bool' w _ _ _ _ (by kernel_rfl) | exact eq_str w _ _ _ _ (by kernel_rfl)
 refine(eqF_step (a:= .string ⟨p.pw.toArray⟩) (b:= .string ⟨p'.pw.toArray⟩) (r:=(p.pw==p'.pw)) rfl (fun w=> ?_) (fun w=> ?_) (fun w=> ?_) (fun w=> ?_) w)
 ·go_simp
 ·go_simp
 ·first | exact run_equalIn_int w _ _ _ .i64 _ _ (by kernel_rfl) | exact run_equalIn_bool' w _ _ _ _ (by kernel_rfl) | exact eq_str w _ _ _ _ (by kernel_rfl)
 refine(eqF_step (a:=Value.agg #[.string ⟨p.wt.toArray⟩,.string ⟨p.wb.toArray⟩,.int .i64 p.wq,.bool p.wr]) (b:=Value.agg #[.string ⟨p'.wt.toArray⟩,.string ⟨p'.wb.toArray⟩,.int .i64 p'.wq,.bool p'.wr]) (r:=willB p p') rfl (fun w=> ?_) (fun w=> ?_) (fun w=>will_eq d p p' w) (fun w=>eqF_end w) w)
 ·go_simp
 ·go_simp
theorem flatB_is {p p' :Pk}(hw:p.wants=p'.wants)(hc:p.codes=p'.codes)(hf:p.fs=p'.fs):flatB p p' =decide (p=p'):=by
 rw[Bool.eq_iff_iff,decide_eq_true_iff];obtain⟨⟩:=p;obtain⟨⟩:=p';simp only at hw hc hf;subst hw hc hf;unfold flatB willB;simp only[Bool.and_true,Bool.and_eq_true,beq_iff_eq,Pk.mk.injEq,and_true]
 constructor
 ·rintro⟨h1,h2,h3,h4,h5,h6,h7,h8,h9,h10,h11,h12,h13,h14,h15,h16,h17,h18,h19,h20,h21⟩
  exact⟨h1,h2,h3,h9,h13,h14,h11,h15,h4,h12,h5,h18,h19,h20,h21,h6,h7,h16,h17,h8,h10⟩
 ·rintro⟨h1,h2,h3,h9,h13,h14,h11,h15,h4,h12,h5,h18,h19,h20,h21,h6,h7,h16,h17,h8,h10⟩
  exact⟨h1,h2,h3,h4,h5,h6,h7,h8,h9,h10,h11,h12,h13,h14,h15,h16,h17,h18,h19,h20,h21⟩

theorem undPack:∃d,Tryz.prog.underlying 29=some d∧d.isRow=true:=⟨_,Tryz.underlying29,rfl⟩
theorem PkL.eqw {w:World}{p p' :Pk}{sw sc sf sw1 sc1 sf1:Value}(h1:PkL w p sw sc sf)(h2:PkL w p' sw1 sc1 sf1)(hl:p.wants.length≤1000000):
  ∀W,Keeps w W []→Calls Tryz.prog 37 #[sw,sw1] W (TruePost W (decide (p.wants=p'.wants))):=by
 obtain⟨A,a,rfl,l1⟩:=h1.lw;obtain⟨A',a',rfl,l1'⟩:=h2.lw;exact fun W hk=>eqWants_any W _ _ _ _ _ _ (l1.keeps hk) (l1'.keeps hk) hl
theorem PkL.eqc {w:World}{p p' :Pk}{sw sc sf sw1 sc1 sf1:Value}(h1:PkL w p sw sc sf)(h2:PkL w p' sw1 sc1 sf1)(hl:p.codes.length≤1000000):
  ∀W,Keeps w W []→Calls Tryz.prog 38 #[sc,sc1] W (TruePost W (decide (p.codes=p'.codes))):=by
 obtain⟨A,a,rfl,l1⟩:=h1.lc;obtain⟨A',a',rfl,l1'⟩:=h2.lc;exact fun W hk=>eqInts_any W _ _ _ _ _ _ (l1.keeps hk) (l1'.keeps hk) hl
theorem PkL.eqf {w:World}{p p' :Pk}{sw sc sf sw1 sc1 sf1:Value}(h1:PkL w p sw sc sf)(h2:PkL w p' sw1 sc1 sf1)(hl:p.fs.length≤1000000):
  ∀W,Keeps w W []→Calls Tryz.prog 39 #[sf,sf1] W (TruePost W (decide (p.fs=p'.fs))):=by
 obtain⟨A,a,rfl,l1⟩:=h1.lf;obtain⟨A',a',rfl,l1'⟩:=h2.lf;exact fun W hk=>eqTexts_any W _ _ _ _ _ _ (l1.keeps hk) (l1'.keeps hk) hl
set_option maxRecDepth 100000 in
set_option maxHeartbeats 800000 in
theorem pkSame_any (p p' :Pk)(sw sc sf sw1 sc1 sf1:Value)(w:World)(h1:PkL w p sw sc sf)(h2:PkL w p' sw1 sc1 sf1)(hl:p.wants.length≤1000000∧p.codes.length≤1000000∧p.fs.length≤1000000):
  Calls Tryz.prog 17 #[pkV p sw sc sf,pkV p' sw1 sc1 sf1] w (TruePost w (decide (p=p'))):=by
 have HF:=zh (fun W=>And.intro (pkFlat_any p sw sc sf W) (pkFlat_any p' sw1 sc1 sf1 W));have HE:=zh (And.intro (h1.eqw h2 hl.1) (And.intro (h1.eqc h2 hl.2.1) (h1.eqf h2 hl.2.2)));obtain⟨c4,hc4⟩:∃x,flatB p p' =x:=⟨_,rfl⟩;have HD:=zh (show p.wants=p'.wants→p.codes=p'.codes→p.fs=p'.fs→c4=decide (p=p')from hc4▸flatB_is);have HPE:=zh (show∀W,(Op.equalIn 10000 83 (flatV p) (flatV p')).run Tryz.prog W= .ok c4 W from fun W=>hc4▸plain_eq 9997 p p' W);clear hc4;have HN:=zh (show(decide (p.wants=p'.wants)=false→decide (p=p')=false)∧(decide (p.codes=p'.codes)=false→decide (p=p')=false)∧(decide (p.fs=p'.fs)=false→decide (p=p')=false)from⟨fun h=>decide_eq_false fun e=>of_decide_eq_false h (e▸rfl),fun h=>decide_eq_false fun e=>of_decide_eq_false h (e▸rfl),fun h=>decide_eq_false fun e=>of_decide_eq_false h (e▸rfl)⟩);clear h1 h2 hl;obtain⟨k,dup,ret,q,t,b,id,c,cl,keep,hw,wt,wb,wq,wr,hu,hp,u,pw,pr,code,wants,codes,fs⟩:=p;obtain⟨k1,dup1,ret1,q1,t1,b1,id1,c1,cl1,keep1,hw1,wt1,wb1,wq1,wr1,hu1,hp1,u1,pw1,pr1,code1,wants1,codes1,fs1⟩:=p';obtain⟨W0,hW0⟩:∃W,(w).alloc (.cells (zP k dup ret q t b id c cl keep hw wt wb wq wr hu hp u pw pr code sw sc sf) 29)=W:=⟨_,rfl⟩;have kk0:Keeps (w) W0 []:=by rw[←hW0];exact Keeps.alloc _ _
 have rr0:Row W0 (w).heap.size 29 (zP k dup ret q t b id c cl keep hw wt wb wq wr hu hp u pw pr code sw sc sf):=by rw[←hW0];exact Row.new _ _ _
 obtain⟨W1,hW1⟩:∃W,(W0).alloc (.cells (zP k1 dup1 ret1 q1 t1 b1 id1 c1 cl1 keep1 hw1 wt1 wb1 wq1 wr1 hu1 hp1 u1 pw1 pr1 code1 sw1 sc1 sf1) 29)=W:=⟨_,rfl⟩;have kk1:Keeps (W0) W1 []:=by rw[←hW1];exact Keeps.alloc _ _
 have rr1:Row W1 (W0).heap.size 29 (zP k1 dup1 ret1 q1 t1 b1 id1 c1 cl1 keep1 hw1 wt1 wb1 wq1 wr1 hu1 hp1 u1 pw1 pr1 code1 sw1 sc1 sf1):=by rw[←hW1];exact Row.new _ _ _
 have s0:W0.heap.size=w.heap.size+1:=by rw[←hW0];simp
 have rr0:=rr0.keep kk1 (by simp);have kk1:=kk0.then_ kk1;rw[s0]at rr1;have HR:=zh (And.intro kk1 (And.intro rr0 rr1));clear rr0 rr1 kk1 kk0
 go_enter Tryz.func17,Tryz.ntmps17
 go_wp2_with fail
 have HRW:=zh HR.out.2;have M0:=fun(W' :World) (hW:Keeps (W1) W' [])=>((HR.out.2.1).keeps hW).cell 0
 have M1:=fun(W' :World) (hW:Keeps (W1) W' [])=>((HR.out.2.1).keeps hW).cell 1
 have M2:=fun(W' :World) (hW:Keeps (W1) W' [])=>((HR.out.2.1).keeps hW).cell 2
 have M3:=fun(W' :World) (hW:Keeps (W1) W' [])=>((HR.out.2.1).keeps hW).cell 3
 have M4:=fun(W' :World) (hW:Keeps (W1) W' [])=>((HR.out.2.1).keeps hW).cell 4
 have M5:=fun(W' :World) (hW:Keeps (W1) W' [])=>((HR.out.2.1).keeps hW).cell 5
 have M6:=fun(W' :World) (hW:Keeps (W1) W' [])=>((HR.out.2.1).keeps hW).cell 6
 have M7:=fun(W' :World) (hW:Keeps (W1) W' [])=>((HR.out.2.1).keeps hW).cell 7
 have M8:=fun(W' :World) (hW:Keeps (W1) W' [])=>((HR.out.2.1).keeps hW).cell 8
 have M9:=fun(W' :World) (hW:Keeps (W1) W' [])=>((HR.out.2.1).keeps hW).cell 9
 have M10:=fun(W' :World) (hW:Keeps (W1) W' [])=>((HR.out.2.1).keeps hW).cell 10
 have M11:=fun(W' :World) (hW:Keeps (W1) W' [])=>((HR.out.2.1).keeps hW).cell 11
 have M12:=fun(W' :World) (hW:Keeps (W1) W' [])=>((HR.out.2.1).keeps hW).cell 12
 have M13:=fun(W' :World) (hW:Keeps (W1) W' [])=>((HR.out.2.1).keeps hW).cell 13
 have M14:=fun(W' :World) (hW:Keeps (W1) W' [])=>((HR.out.2.1).keeps hW).cell 14
 have M15:=fun(W' :World) (hW:Keeps (W1) W' [])=>((HR.out.2.1).keeps hW).cell 15
 have M16:=fun(W' :World) (hW:Keeps (W1) W' [])=>((HR.out.2.1).keeps hW).cell 16
 have M17:=fun(W' :World) (hW:Keeps (W1) W' [])=>((HR.out.2.1).keeps hW).cell 17
 have M18:=fun(W' :World) (hW:Keeps (W1) W' [])=>((HR.out.2.1).keeps hW).cell 18
 have M19:=fun(W' :World) (hW:Keeps (W1) W' [])=>((HR.out.2.1).keeps hW).cell 19
 have M20:=fun(W' :World) (hW:Keeps (W1) W' [])=>((HR.out.2.1).keeps hW).cell 20
 have M21:=fun(W' :World) (hW:Keeps (W1) W' [])=>((HR.out.2.1).keeps hW).cell 21
 have M22:=fun(W' :World) (hW:Keeps (W1) W' [])=>((HR.out.2.1).keeps hW).cell 22
 have M23:=fun(W' :World) (hW:Keeps (W1) W' [])=>((HR.out.2.1).keeps hW).cell 23
 simp only[zga,zgz,zgs]at M0 M1 M2 M3 M4 M5 M6 M7 M8 M9 M10 M11 M12 M13 M14 M15 M16 M17 M18 M19 M20 M21 M22 M23;have N0:=fun(W' :World) (hW:Keeps (W1) W' [])=>((HR.out.2.2).keeps hW).cell 0
 have N1:=fun(W' :World) (hW:Keeps (W1) W' [])=>((HR.out.2.2).keeps hW).cell 1
 have N2:=fun(W' :World) (hW:Keeps (W1) W' [])=>((HR.out.2.2).keeps hW).cell 2
 have N3:=fun(W' :World) (hW:Keeps (W1) W' [])=>((HR.out.2.2).keeps hW).cell 3
 have N4:=fun(W' :World) (hW:Keeps (W1) W' [])=>((HR.out.2.2).keeps hW).cell 4
 have N5:=fun(W' :World) (hW:Keeps (W1) W' [])=>((HR.out.2.2).keeps hW).cell 5
 have N6:=fun(W' :World) (hW:Keeps (W1) W' [])=>((HR.out.2.2).keeps hW).cell 6
 have N7:=fun(W' :World) (hW:Keeps (W1) W' [])=>((HR.out.2.2).keeps hW).cell 7
 have N8:=fun(W' :World) (hW:Keeps (W1) W' [])=>((HR.out.2.2).keeps hW).cell 8
 have N9:=fun(W' :World) (hW:Keeps (W1) W' [])=>((HR.out.2.2).keeps hW).cell 9
 have N10:=fun(W' :World) (hW:Keeps (W1) W' [])=>((HR.out.2.2).keeps hW).cell 10
 have N11:=fun(W' :World) (hW:Keeps (W1) W' [])=>((HR.out.2.2).keeps hW).cell 11
 have N12:=fun(W' :World) (hW:Keeps (W1) W' [])=>((HR.out.2.2).keeps hW).cell 12
 have N13:=fun(W' :World) (hW:Keeps (W1) W' [])=>((HR.out.2.2).keeps hW).cell 13
 have N14:=fun(W' :World) (hW:Keeps (W1) W' [])=>((HR.out.2.2).keeps hW).cell 14
 have N15:=fun(W' :World) (hW:Keeps (W1) W' [])=>((HR.out.2.2).keeps hW).cell 15
 have N16:=fun(W' :World) (hW:Keeps (W1) W' [])=>((HR.out.2.2).keeps hW).cell 16
 have N17:=fun(W' :World) (hW:Keeps (W1) W' [])=>((HR.out.2.2).keeps hW).cell 17
 have N18:=fun(W' :World) (hW:Keeps (W1) W' [])=>((HR.out.2.2).keeps hW).cell 18
 have N19:=fun(W' :World) (hW:Keeps (W1) W' [])=>((HR.out.2.2).keeps hW).cell 19
 have N20:=fun(W' :World) (hW:Keeps (W1) W' [])=>((HR.out.2.2).keeps hW).cell 20
 have N21:=fun(W' :World) (hW:Keeps (W1) W' [])=>((HR.out.2.2).keeps hW).cell 21
 have N22:=fun(W' :World) (hW:Keeps (W1) W' [])=>((HR.out.2.2).keeps hW).cell 22
 have N23:=fun(W' :World) (hW:Keeps (W1) W' [])=>((HR.out.2.2).keeps hW).cell 23
 simp only[zga,zgz,zgs]at N0 N1 N2 N3 N4 N5 N6 N7 N8 N9 N10 N11 N12 N13 N14 N15 N16 N17 N18 N19 N20 N21 N22 N23;obtain⟨c1,hc1⟩:∃x,decide (wants=wants1)=x:=⟨_,rfl⟩;obtain⟨c2,hc2⟩:∃x,decide (codes=codes1)=x:=⟨_,rfl⟩;obtain⟨c3,hc3⟩:∃x,decide (fs=fs1)=x:=⟨_,rfl⟩;simp only[hc1,hc2,hc3]at HE;have HC:=zh (And.intro hc1 (And.intro hc2 hc3));have HK:=zh HR.out.1;clear hc1 hc2 hc3 HR
 cases c1
 ·skip
  refine wp_region_tail KeepsAll _ 26 (by kernel_rfl) rfl (by kernel_rfl) (fun _=>Keeps.refl _ _) (fun _ _ _ h k=>h.trans k (by simp)) (Keeps.drew _) ?_;simp only[zts,ztz,zds,zdz];refine ls ?_;simp only[addEnt];apply loose_is
  ·intro W vals hW hkn
   simp only[knows]at hkn
   try simp only[and_true]at hkn
   clear hkn;have m0:=M21 W hW;refine⟨?_⟩;simp only[fill];go_simp
   first | exact⟨Keeps.refl _ _,rfl⟩ | exact⟨Keeps.alloc _ _,rfl⟩
  simp only[addEnt];refine ls ?_;simp only[addEnt];apply loose_is
  ·intro W vals hW hkn
   simp only[knows]at hkn
   try simp only[and_true]at hkn
   clear hkn;have m0:=N21 W hW;refine⟨?_⟩;simp only[fill];go_simp
   first | exact⟨Keeps.refl _ _,rfl⟩ | exact⟨Keeps.alloc _ _,rfl⟩
  simp only[addEnt];apply loose_is
  ·intro W vals hW hkn
   clear hkn;refine⟨?_⟩;simp only[fill];go_simp;refine looseUpon_calls ?_;exact(HE.out.1 W (HK.out.then_ hW)).mono (by rintro e w2 ⟨rfl,hk⟩;exact⟨_,rfl,hk,rfl⟩)
  simp only[addEnt];refine ls ?_
  iterate 5
   simp only[addEnt];refine lo ?_
  iterate 2
   simp only[addEnt];refine ls ?_
  iterate 5
   simp only[addEnt];refine lo ?_
  iterate 2
   simp only[addEnt];refine ls ?_
  iterate 5
   simp only[addEnt];refine lo ?_
  simp only[addEnt];refine ls ?_;simp only[addEnt];refine loose_nil (fun W vals hW hkn=> ?_);simp only[knowsAll]at hkn
  try simp only[and_true]at hkn
  simp only[fill,Act.put,zsa,zsc,zsz]
  go_wp2_with fail
  go_ret;exact⟨by rw[HN.out.1 HC.out.1];rfl,HK.out.then_ hW⟩
 cases c2
 ·skip
  refine wp_region_tail KeepsAll _ 26 (by kernel_rfl) rfl (by kernel_rfl) (fun _=>Keeps.refl _ _) (fun _ _ _ h k=>h.trans k (by simp)) (Keeps.drew _) ?_;simp only[zts,ztz,zds,zdz];refine ls ?_;simp only[addEnt];apply loose_is
  ·intro W vals hW hkn
   simp only[knows]at hkn
   try simp only[and_true]at hkn
   clear hkn;have m0:=M21 W hW;refine⟨?_⟩;simp only[fill];go_simp
   first | exact⟨Keeps.refl _ _,rfl⟩ | exact⟨Keeps.alloc _ _,rfl⟩
  simp only[addEnt];refine ls ?_;simp only[addEnt];apply loose_is
  ·intro W vals hW hkn
   simp only[knows]at hkn
   try simp only[and_true]at hkn
   clear hkn;have m0:=N21 W hW;refine⟨?_⟩;simp only[fill];go_simp
   first | exact⟨Keeps.refl _ _,rfl⟩ | exact⟨Keeps.alloc _ _,rfl⟩
  simp only[addEnt];apply loose_is
  ·intro W vals hW hkn
   clear hkn;refine⟨?_⟩;simp only[fill];go_simp;refine looseUpon_calls ?_;exact(HE.out.1 W (HK.out.then_ hW)).mono (by rintro e w2 ⟨rfl,hk⟩;exact⟨_,rfl,hk,rfl⟩)
  iterate 2
   simp only[addEnt];refine ls ?_
  simp only[addEnt];apply loose_is
  ·intro W vals hW hkn
   simp only[knows]at hkn
   try simp only[and_true]at hkn
   clear hkn;have m0:=M22 W hW;refine⟨?_⟩;simp only[fill];go_simp
   first | exact⟨Keeps.refl _ _,rfl⟩ | exact⟨Keeps.alloc _ _,rfl⟩
  simp only[addEnt];refine ls ?_;simp only[addEnt];apply loose_is
  ·intro W vals hW hkn
   simp only[knows]at hkn
   try simp only[and_true]at hkn
   clear hkn;have m0:=N22 W hW;refine⟨?_⟩;simp only[fill];go_simp
   first | exact⟨Keeps.refl _ _,rfl⟩ | exact⟨Keeps.alloc _ _,rfl⟩
  simp only[addEnt];apply loose_is
  ·intro W vals hW hkn
   clear hkn;refine⟨?_⟩;simp only[fill];go_simp;refine looseUpon_calls ?_;exact(HE.out.2.1 W (HK.out.then_ hW)).mono (by rintro e w2 ⟨rfl,hk⟩;exact⟨_,rfl,hk,rfl⟩)
  iterate 2
   simp only[addEnt];refine ls ?_
  iterate 5
   simp only[addEnt];refine lo ?_
  iterate 2
   simp only[addEnt];refine ls ?_
  iterate 5
   simp only[addEnt];refine lo ?_
  simp only[addEnt];refine ls ?_;simp only[addEnt];refine loose_nil (fun W vals hW hkn=> ?_);simp only[knowsAll]at hkn
  try simp only[and_true]at hkn
  simp only[fill,Act.put,zsa,zsc,zsz]
  go_wp2_with fail
  go_ret;exact⟨by rw[HN.out.2.1 HC.out.2.1];rfl,HK.out.then_ hW⟩
 cases c3
 ·skip
  refine wp_region_tail KeepsAll _ 26 (by kernel_rfl) rfl (by kernel_rfl) (fun _=>Keeps.refl _ _) (fun _ _ _ h k=>h.trans k (by simp)) (Keeps.drew _) ?_;simp only[zts,ztz,zds,zdz];refine ls ?_;simp only[addEnt];apply loose_is
  ·intro W vals hW hkn
   simp only[knows]at hkn
   try simp only[and_true]at hkn
   clear hkn;have m0:=M21 W hW;refine⟨?_⟩;simp only[fill];go_simp
   first | exact⟨Keeps.refl _ _,rfl⟩ | exact⟨Keeps.alloc _ _,rfl⟩
  simp only[addEnt];refine ls ?_;simp only[addEnt];apply loose_is
  ·intro W vals hW hkn
   simp only[knows]at hkn
   try simp only[and_true]at hkn
   clear hkn;have m0:=N21 W hW;refine⟨?_⟩;simp only[fill];go_simp
   first | exact⟨Keeps.refl _ _,rfl⟩ | exact⟨Keeps.alloc _ _,rfl⟩
  simp only[addEnt];apply loose_is
  ·intro W vals hW hkn
   clear hkn;refine⟨?_⟩;simp only[fill];go_simp;refine looseUpon_calls ?_;exact(HE.out.1 W (HK.out.then_ hW)).mono (by rintro e w2 ⟨rfl,hk⟩;exact⟨_,rfl,hk,rfl⟩)
  iterate 2
   simp only[addEnt];refine ls ?_
  simp only[addEnt];apply loose_is
  ·intro W vals hW hkn
   simp only[knows]at hkn
   try simp only[and_true]at hkn
   clear hkn;have m0:=M22 W hW;refine⟨?_⟩;simp only[fill];go_simp
   first | exact⟨Keeps.refl _ _,rfl⟩ | exact⟨Keeps.alloc _ _,rfl⟩
  simp only[addEnt];refine ls ?_;simp only[addEnt];apply loose_is
  ·intro W vals hW hkn
   simp only[knows]at hkn
   try simp only[and_true]at hkn
   clear hkn;have m0:=N22 W hW;refine⟨?_⟩;simp only[fill];go_simp
   first | exact⟨Keeps.refl _ _,rfl⟩ | exact⟨Keeps.alloc _ _,rfl⟩
  simp only[addEnt];apply loose_is
  ·intro W vals hW hkn
   clear hkn;refine⟨?_⟩;simp only[fill];go_simp;refine looseUpon_calls ?_;exact(HE.out.2.1 W (HK.out.then_ hW)).mono (by rintro e w2 ⟨rfl,hk⟩;exact⟨_,rfl,hk,rfl⟩)
  iterate 3
   simp only[addEnt];refine ls ?_
  simp only[addEnt];apply loose_is
  ·intro W vals hW hkn
   simp only[knows]at hkn
   try simp only[and_true]at hkn
   clear hkn;have m0:=M23 W hW;refine⟨?_⟩;simp only[fill];go_simp
   first | exact⟨Keeps.refl _ _,rfl⟩ | exact⟨Keeps.alloc _ _,rfl⟩
  simp only[addEnt];refine ls ?_;simp only[addEnt];apply loose_is
  ·intro W vals hW hkn
   simp only[knows]at hkn
   try simp only[and_true]at hkn
   clear hkn;have m0:=N23 W hW;refine⟨?_⟩;simp only[fill];go_simp
   first | exact⟨Keeps.refl _ _,rfl⟩ | exact⟨Keeps.alloc _ _,rfl⟩
  simp only[addEnt];apply loose_is
  ·intro W vals hW hkn
   clear hkn;refine⟨?_⟩;simp only[fill];go_simp;refine looseUpon_calls ?_;exact(HE.out.2.2 W (HK.out.then_ hW)).mono (by rintro e w2 ⟨rfl,hk⟩;exact⟨_,rfl,hk,rfl⟩)
  iterate 2
   simp only[addEnt];refine ls ?_
  iterate 5
   simp only[addEnt];refine lo ?_
  simp only[addEnt];refine ls ?_;simp only[addEnt];refine loose_nil (fun W vals hW hkn=> ?_);simp only[knowsAll]at hkn
  try simp only[and_true]at hkn
  simp only[fill,Act.put,zsa,zsc,zsz]
  go_wp2_with fail
  go_ret;exact⟨by rw[HN.out.2.2 HC.out.2.2];rfl,HK.out.then_ hW⟩
 refine wp_region_tail KeepsAll _ 26 (by kernel_rfl) rfl (by kernel_rfl) (fun _=>Keeps.refl _ _) (fun _ _ _ h k=>h.trans k (by simp)) (Keeps.drew _) ?_;simp only[zts,ztz,zds,zdz];refine ls ?_;simp only[addEnt];apply loose_is
 ·intro W vals hW hkn
  simp only[knows]at hkn
  try simp only[and_true]at hkn
  clear hkn;have m0:=M21 W hW;refine⟨?_⟩;simp only[fill];go_simp
  first | exact⟨Keeps.refl _ _,rfl⟩ | exact⟨Keeps.alloc _ _,rfl⟩
 simp only[addEnt];refine ls ?_;simp only[addEnt];apply loose_is
 ·intro W vals hW hkn
  simp only[knows]at hkn
  try simp only[and_true]at hkn
  clear hkn;have m0:=N21 W hW;refine⟨?_⟩;simp only[fill];go_simp
  first | exact⟨Keeps.refl _ _,rfl⟩ | exact⟨Keeps.alloc _ _,rfl⟩
 simp only[addEnt];apply loose_is
 ·intro W vals hW hkn
  clear hkn;refine⟨?_⟩;simp only[fill];go_simp;refine looseUpon_calls ?_;exact(HE.out.1 W (HK.out.then_ hW)).mono (by rintro e w2 ⟨rfl,hk⟩;exact⟨_,rfl,hk,rfl⟩)
 iterate 2
  simp only[addEnt];refine ls ?_
 simp only[addEnt];apply loose_is
 ·intro W vals hW hkn
  simp only[knows]at hkn
  try simp only[and_true]at hkn
  clear hkn;have m0:=M22 W hW;refine⟨?_⟩;simp only[fill];go_simp
  first | exact⟨Keeps.refl _ _,rfl⟩ | exact⟨Keeps.alloc _ _,rfl⟩
 simp only[addEnt];refine ls ?_;simp only[addEnt];apply loose_is
 ·intro W vals hW hkn
  simp only[knows]at hkn
  try simp only[and_true]at hkn
  clear hkn;have m0:=N22 W hW;refine⟨?_⟩;simp only[fill];go_simp
  first | exact⟨Keeps.refl _ _,rfl⟩ | exact⟨Keeps.alloc _ _,rfl⟩
 simp only[addEnt];apply loose_is
 ·intro W vals hW hkn
  clear hkn;refine⟨?_⟩;simp only[fill];go_simp;refine looseUpon_calls ?_;exact(HE.out.2.1 W (HK.out.then_ hW)).mono (by rintro e w2 ⟨rfl,hk⟩;exact⟨_,rfl,hk,rfl⟩)
 iterate 3
  simp only[addEnt];refine ls ?_
 simp only[addEnt];apply loose_is
 ·intro W vals hW hkn
  simp only[knows]at hkn
  try simp only[and_true]at hkn
  clear hkn;have m0:=M23 W hW;refine⟨?_⟩;simp only[fill];go_simp
  first | exact⟨Keeps.refl _ _,rfl⟩ | exact⟨Keeps.alloc _ _,rfl⟩
 simp only[addEnt];refine ls ?_;simp only[addEnt];apply loose_is
 ·intro W vals hW hkn
  simp only[knows]at hkn
  try simp only[and_true]at hkn
  clear hkn;have m0:=N23 W hW;refine⟨?_⟩;simp only[fill];go_simp
  first | exact⟨Keeps.refl _ _,rfl⟩ | exact⟨Keeps.alloc _ _,rfl⟩
 simp only[addEnt];apply loose_is
 ·intro W vals hW hkn
  clear hkn;refine⟨?_⟩;simp only[fill];go_simp;refine looseUpon_calls ?_;exact(HE.out.2.2 W (HK.out.then_ hW)).mono (by rintro e w2 ⟨rfl,hk⟩;exact⟨_,rfl,hk,rfl⟩)
 iterate 2
  simp only[addEnt];refine ls ?_
 simp only[addEnt];apply loose_is
 ·intro W vals hW hkn
  clear hkn;simp only[fill];obtain⟨d,hu,hd⟩:=undPack;refine opOk_load ?_ rfl ?_ (range_row (HRW.out.1.keeps hW)) hu hd ?_ (Keeps.refl _ _) rfl
  ·go_simp
  ·go_simp
  ·kernel_rfl
 simp only[addEnt];apply loose_is
 ·intro W vals hW hkn
  clear hkn;refine⟨?_⟩;simp only[fill];go_simp;refine looseUpon_calls ?_;exact(HF.out W).1.mono (by rintro e w2 ⟨rfl,hk⟩;exact⟨_,rfl,hk,rfl⟩)
 simp only[addEnt];apply loose_is
 ·intro W vals hW hkn
  clear hkn;simp only[fill];obtain⟨d,hu,hd⟩:=undPack;refine opOk_load ?_ rfl ?_ (range_row (HRW.out.2.keeps hW)) hu hd ?_ (Keeps.refl _ _) rfl
  ·go_simp
  ·go_simp
  ·kernel_rfl
 simp only[addEnt];apply loose_is
 ·intro W vals hW hkn
  clear hkn;refine⟨?_⟩;simp only[fill];go_simp;refine looseUpon_calls ?_;exact(HF.out W).2.mono (by rintro e w2 ⟨rfl,hk⟩;exact⟨_,rfl,hk,rfl⟩)
 simp only[addEnt];apply loose_is
 ·intro W vals hW hkn
  clear hkn;simp only[fill];refine opOk_eql ?_ rfl ?_ ?_ ?_ HPE.out (Keeps.refl _ _) rfl
  ·go_simp
  ·go_simp
  ·go_simp
  ·kernel_rfl
 simp only[addEnt];refine ls ?_;simp only[addEnt];refine loose_nil (fun W vals hW hkn=> ?_);simp only[knowsAll]at hkn
 try simp only[and_true]at hkn
 simp only[fill,Act.put,zsa,zsc,zsz]
 go_wp2_with fail
 go_ret;exact⟨by rw[←HD.out (of_decide_eq_true HC.out.1) (of_decide_eq_true HC.out.2.1) (of_decide_eq_true HC.out.2.2)];rfl,HK.out.then_ hW⟩
end Go.Proofs.YtahbikfbjenfpaaGreatDoor
