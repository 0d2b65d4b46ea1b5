/- Package packet: all of a packet but its lists. -/
import Derived.Test.YtahbikfbjenfpaaGreatDoorPa3
import Derived.Test.YtahbikfbjenfpaaGreatDoorPa2
import Derived.Deep.WholeRow

namespace Go.Proofs.YtahbikfbjenfpaaGreatDoor
open Go.RowKit

abbrev flatV (p : Pk) : Value := .agg #[.int .i64 p.k, .bool p.dup, .bool p.ret, .bool p.cl, .bool p.hw, .bool p.hu, .bool p.hp, .bool p.pr, .int .i64 p.q, .int .i64 p.code, .int .i64 p.id, .int .i64 p.keep, .string ⟨p.t.toArray⟩, .string ⟨p.b.toArray⟩, .string ⟨p.c.toArray⟩, .string ⟨p.u.toArray⟩, .string ⟨p.pw.toArray⟩, .string ⟨p.wt.toArray⟩, .string ⟨p.wb.toArray⟩, .int .i64 p.wq, .bool p.wr]
/-- A whole value is laid into the box that was made last. -/
theorem wpList_store_new {ops : Array Oper} {rest : List Oper} {op : Oper} {a : Act} {w : World} {Q : Exit → Act → World → Prop} {t : TypeId} (hgd : op.guard = none) (x y : Operand) (ho : op.op = .store t x y) (X Z : Array Value) (w1 : World) (hw : w = w1.alloc (.cells Z t)) (hi : (Tryz.prog.info? t).map (·.size) = some X.size) (hZ : Z.size = X.size) (h1 : X.all (·.oneCell') = true)
  (hx : a.eval x = .pointer (some ⟨w1.heap.size, 0, none⟩)) (hy : a.eval y = .agg X)
  (h : ∀ w', w1.alloc (.cells X t) = w' → Hid (wpList Tryz.prog ops Q rest (a.put op.dst undef) w')) : wpList Tryz.prog ops Q (op :: rest) a w := by
 subst hw
 refine wpList_plain hgd fun _ hK => ?_
 unfold Oper.wp execOp
 have hrun := run_storeAt_new (P := Tryz.prog) w1 t Z X hi hZ h1
 simp only [ho, hx, hy, Sem.run_bind, hrun, Result.andThen_ok, Sem.run_pure]
 exact hK _ _ (h _ rfl).out
/-- A function's result, read out of its cells at once. -/
theorem results_row {f : Func} {t : Array Value} {w : World} {s : Nat} {ty : TypeId} {g : Nat} {cs : List Value} {d : TypeDesc} (hf : f.results = #[.cell s ty]) (ht : t.getD s undef = .pointer (some ⟨g, 0, none⟩)) (hc : w.rangeAt g 0 cs) (hu : Tryz.prog.underlying ty = some d) (hd : d.isRow = true) (hi : (Tryz.prog.info? ty).map (·.size) = some cs.length) :
  (results f t).run Tryz.prog w = .ok (.agg cs.toArray) w := by
 have h := run_loadVar_mid w g 0 ty cs d hc hu hd hi
 rw [Array.getD_eq_getD_getElem?] at ht
 simp [results, hf, ht, h, asAddr]
theorem undPlain : ∃ d, Tryz.prog.underlying 83 = some d ∧ d.isRow = true := ⟨_, Tryz.underlying83, rfl⟩
set_option maxRecDepth 100000 in
set_option maxHeartbeats 2000000 in
theorem pkFlat_any (p : Pk) (sw sc sf : Value) (w : World) : Calls Tryz.prog 40 #[pkV p sw sc sf] w fun e w' => e = .returned (flatV p) ∧ Keeps w w' [] := by
 obtain ⟨k, dup, ret, q, t, b, id, c, cl, keep, hw, wt, wb, wq, wr, hu, hp, u, pw, pr, code, wants, codes, fs⟩ := p
 obtain ⟨W0, hW0⟩ : ∃ W, (w).alloc (.cells #[.int .i64 k, .bool dup, .bool ret, .int .i64 q, .string ⟨t.toArray⟩, .string ⟨b.toArray⟩, .int .i64 id, .string ⟨c.toArray⟩, .bool cl, .int .i64 keep, .bool hw, .string ⟨wt.toArray⟩, .string ⟨wb.toArray⟩, .int .i64 wq, .bool wr, .bool hu, .bool hp, .string ⟨u.toArray⟩, .string ⟨pw.toArray⟩, .bool pr, .int .i64 code, sw, sc, sf] 29) = W := ⟨_, rfl⟩
 have k0 : Keeps (w) W0 [] := by rw [← hW0]; exact Keeps.alloc _ _
 have r0 : Row W0 (w).heap.size 29 #[.int .i64 k, .bool dup, .bool ret, .int .i64 q, .string ⟨t.toArray⟩, .string ⟨b.toArray⟩, .int .i64 id, .string ⟨c.toArray⟩, .bool cl, .int .i64 keep, .bool hw, .string ⟨wt.toArray⟩, .string ⟨wb.toArray⟩, .int .i64 wq, .bool wr, .bool hu, .bool hp, .string ⟨u.toArray⟩, .string ⟨pw.toArray⟩, .bool pr, .int .i64 code, sw, sc, sf] := by rw [← hW0]; exact Row.new _ _ _
 have HR := Lib.hid (And.intro k0 r0)
 clear k0 r0
 obtain ⟨W1, hW1⟩ : ∃ W1, W0.alloc (.cells #[.int .i64 0, .bool false, .bool false, .bool false, .bool false, .bool false, .bool false, .bool false, .int .i64 0, .int .i64 0, .int .i64 0, .int .i64 0, .string ⟨#[]⟩, .string ⟨#[]⟩, .string ⟨#[]⟩, .string ⟨#[]⟩, .string ⟨#[]⟩, .string ⟨#[]⟩, .string ⟨#[]⟩, .int .i64 0, .bool false] 83) = W1 := ⟨_, rfl⟩
 have r1 : Row W1 w.heap.size 29 #[.int .i64 k, .bool dup, .bool ret, .int .i64 q, .string ⟨t.toArray⟩, .string ⟨b.toArray⟩, .int .i64 id, .string ⟨c.toArray⟩, .bool cl, .int .i64 keep, .bool hw, .string ⟨wt.toArray⟩, .string ⟨wb.toArray⟩, .int .i64 wq, .bool wr, .bool hu, .bool hp, .string ⟨u.toArray⟩, .string ⟨pw.toArray⟩, .bool pr, .int .i64 code, sw, sc, sf] := by rw [← hW1]; exact HR.out.2.alloc _
 have x0 := r1.cell 0
 have x1 := r1.cell 1
 have x2 := r1.cell 2
 have x3 := r1.cell 3
 have x4 := r1.cell 4
 have x5 := r1.cell 5
 have x6 := r1.cell 6
 have x7 := r1.cell 7
 have x8 := r1.cell 8
 have x9 := r1.cell 9
 have x10 := r1.cell 10
 have x11 := r1.cell 11
 have x12 := r1.cell 12
 have x13 := r1.cell 13
 have x14 := r1.cell 14
 have x15 := r1.cell 15
 have x16 := r1.cell 16
 have x17 := r1.cell 17
 have x18 := r1.cell 18
 have x19 := r1.cell 19
 have x20 := r1.cell 20
 have x21 := r1.cell 21
 have x22 := r1.cell 22
 have x23 := r1.cell 23
 simp only [List.getElem?_toArray, List.getElem?_cons_zero, List.getElem?_cons_succ] at x0 x1 x2 x3 x4 x5 x6 x7 x8 x9 x10 x11 x12 x13 x14 x15 x16 x17 x18 x19 x20 x21 x22 x23
 clear r1
 have HK := Lib.hid HR.out.1
 clear HR
 go_enter Tryz.func40, Tryz.ntmps40
 go_wp2_with (refine wpList_store_new rfl (.tmp 2) (.tmp 39) rfl #[.int .i64 k, .bool dup, .bool ret, .bool cl, .bool hw, .bool hu, .bool hp, .bool pr, .int .i64 q, .int .i64 code, .int .i64 id, .int .i64 keep, .string ⟨t.toArray⟩, .string ⟨b.toArray⟩, .string ⟨c.toArray⟩, .string ⟨u.toArray⟩, .string ⟨pw.toArray⟩, .string ⟨wt.toArray⟩, .string ⟨wb.toArray⟩, .int .i64 wq, .bool wr] #[.int .i64 0, .bool false, .bool false, .bool false, .bool false, .bool false, .bool false, .bool false, .int .i64 0, .int .i64 0, .int .i64 0, .int .i64 0, .string ⟨#[]⟩, .string ⟨#[]⟩, .string ⟨#[]⟩, .string ⟨#[]⟩, .string ⟨#[]⟩, .string ⟨#[]⟩, .string ⟨#[]⟩, .int .i64 0, .bool false] W0 hW1.symm (by kernel_rfl) rfl (by simp [Value.oneCell']) rfl rfl ?_; intro w5 hw5)
 refine Lib.hid ?_
 obtain ⟨X, hX⟩ : ∃ X : Array Value, #[.int .i64 k, .bool dup, .bool ret, .bool cl, .bool hw, .bool hu, .bool hp, .bool pr, .int .i64 q, .int .i64 code, .int .i64 id, .int .i64 keep, .string ⟨t.toArray⟩, .string ⟨b.toArray⟩, .string ⟨c.toArray⟩, .string ⟨u.toArray⟩, .string ⟨pw.toArray⟩, .string ⟨wt.toArray⟩, .string ⟨wb.toArray⟩, .int .i64 wq, .bool wr] = X := ⟨_, rfl⟩
 rw [hX] at hw5
 have q9 : Row w5 W0.heap.size 83 X := by rw [← hw5]; exact Row.new _ _ _
 have k9 : Keeps W0 w5 [] := by rw [← hw5]; exact Keeps.alloc _ _
 have H9 := Lib.hid (And.intro q9 (HK.out.then_ k9))
 clear x0 x1 x2 x3 x4 x5 x6 x7 x8 x9 x10 x11 x12 x13 x14 x15 x16 x17 x18 x19 x20 x21 x22 x23
 clear k9 hW0 hW1 q9 hw5
 go_wp2_with fail
 obtain ⟨d, hu, hd⟩ := undPlain
 refine bodyPost_ret (results_row (s := 2) (cs := X.toList) rfl rfl (range_row H9.out.1) hu hd (by rw [← hX]; kernel_rfl)) rfl ⟨?_, H9.out.2⟩
 rw [← hX]
end Go.Proofs.YtahbikfbjenfpaaGreatDoor
