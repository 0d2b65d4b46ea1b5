/- Package disk: what a write does. Package disk: what a flush does. Package disk: a step is done, or refused. Package disk: New, Write, Flush. Package disk: Write. Package disk: Arm, Dead, Pages, Waits, Steps, Read. Package disk: what each page was written, in memory. Package disk: sectors. Package disk: round, Copy. -/
import Derived.Test.YtehlabdbbbbopaaPa15
import Derived.Test.YtehlabdbbbbopaaPa16

namespace Go.Proofs.Ytehlabdbbbbopaa
open Go.RowKit Go.Maps

/-- A page is read, at an operation of a region that draws its order. -/
theorem opOk_loadLeaf {R : World → World → Prop} {ops : Array Oper} {a : Act} {o : Oper} {W : World} (hgd : o.guard = none) (x : Operand) (ho : o.op = .load 72 x) (g off : Nat) (X : Array Value) (hX : X.size = 256) (hx : a.eval x = .pointer (some ⟨g, off, none⟩)) (hc : W.rangeAt g off X.toList) (hR : R W W) :
    opOk Try.prog R ops a o (fun u _ => u = .agg X) W := by
  refine ⟨?_⟩
  rw [if_pos (by simp [Region.wanted, hgd])]
  have hrun := run_loadAt_mid (P := Try.prog) W g off 72 X.toList _ hc undLeaf rfl (by rw [Array.length_toList, hX]; exact (zero_of_info infoLeaf).2)
  rw [Array.toArray_toList] at hrun
  unfold execOp
  simp only [ho, hx, Sem.run_bind, hrun, Result.andThen_ok, Sem.run_pure]
  exact ⟨hR, rfl⟩
theorem Row.range {w : World} {g : Nat} {t : TypeId} {X : Array Value} (h : Row w g t X) : w.rangeAt g 0 X.toList := fun j v hv => by
  rw [Nat.zero_add, h.cell, ← hv, Array.getElem?_toList]
def Dk.wrote (D : Dk) (p : Int) (b : List UInt8) : Dk := { D with now := fun x => if x = p then some b else D.now x, waits := D.waits ++ [(p, b)] }
theorem DkOk.wrote {D : Dk} (h : DkOk D) {p : Int} {b : List UInt8} (hp : 0 ≤ p ∧ p < D.pages) (hb : b.length = 256) : DkOk (D.wrote p b) := by
  refine ⟨h.p2, h.p4, h.l, fun x c hx => ?_, fun q hq => ?_, h.k, h.s, h.lf⟩
  · unfold Dk.wrote at hx
    simp only at hx
    split at hx
    · rename_i e
      injection hx with hx
      subst e hx
      exact ⟨hp.1, hp.2, hb⟩
    · exact h.n x c hx
  · rcases List.mem_append.1 hq with hq | hq
    · exact h.w q hq
    · obtain rfl := List.mem_singleton.1 hq
      exact ⟨hp.1, hp.2, hb⟩
def pageDom : List Int := (List.range 4096).map fun n : Nat => (n : Int)
theorem pageF_dom {n : Nat} (hn : n ≤ 4096) {f : Int → Option (List UInt8)} (h : PagesOk n f) : ∀ x, pageF f x ≠ none → x ∈ pageDom := fun x hx => by
  cases hf : f x with
  | none => exact absurd (show pageF f x = none by unfold pageF; rw [hf]; rfl) hx
  | some b =>
    have := h x b hf
    exact List.mem_map.2 ⟨x.toNat, List.mem_range.2 (by omega), by omega⟩
theorem pageDom_lt : pageDom.length < maxLen := by
  unfold pageDom maxLen
  rw [List.length_map, List.length_range]
  omega
theorem pageF_wrote (D : Dk) (p : Int) (b : List UInt8) : upd (pageF D.now) p (some (leafV b)) = pageF (D.wrote p b).now := by
  funext x
  by_cases hx : x = p
  · subst hx
    rw [upd_same]
    simp [pageF, Dk.wrote]
  · rw [upd_other _ hx]
    simp [pageF, Dk.wrote, hx]
theorem append_wait {w : World} {B g : Nat} {v : Value} {l : List (Int × List UInt8)} {p : Int} {b : List UInt8} {X : Array Value} {ty : TypeId} (h : WaitsAt w B v l) (hl : l.length ≤ 1000000) (hr : Row w g 75 (waitA p X)) (hX : leafC b = X) (hb : b.length = 256) (hB : B ≤ w.heap.size) :
    ∃ v' w', (Builtin.append_ #[65, 65] ty #[v, .slice (some ⟨g, 0, none⟩) 1 1]).run Try.prog w = .ok v' w' ∧ WaitsAt w' B v' (l ++ [(p, b)]) ∧ Keeps w w' v.ownBlock.toList := by
  obtain ⟨i0, hi, hz0, hz1, hz2⟩ := partsWait
  subst hX
  have hlies : Lies w w.heap.size (some ⟨g, 0, none⟩) (waitC (p, b)) := fun _ => ⟨g, 0, rfl, hr.lt, fun i u hu => by rw [Nat.zero_add, hr.cell, ← hu, ← waitA_list, Array.getElem?_toList]⟩
  obtain ⟨v', w', hrun, h1, h2, _⟩ := run_append_liesN (P := Try.prog) w B 65 ty 75 i0 _ 257 264 undWaits hi hz0 hz1 hz2 zeroWait_size (by omega) v l.length (waitsC l) h w.heap.size (some ⟨g, 0, none⟩) 1 1 (waitC (p, b)) (by rw [waitC_length hb]) hlies (waitC_one _) (by simp [maxLen]; omega) (by omega) hB
  refine ⟨v', w', hrun, ?_, Keeps.of_grown h2⟩
  unfold WaitsAt
  rw [waitsC_append, waitsC_one_of, List.length_append]
  exact h1
set_option maxRecDepth 100000 in
set_option maxHeartbeats 1000000 in
theorem writeFn_any (w : World) (r1 r2 r3 d m1 m2 : Nat) (V : Value) (D : Dk) (p : Int) (g o c : Nat) (bs : List UInt8) (hbs : bs.length = 256) (hp : 0 ≤ p ∧ p < D.pages) (hd : DkAt w d m1 m2 V D)
    (h1 : Row w r1 32 #[.slice (some ⟨g, o, none⟩) 256 c]) (h2 : Row w r2 24 #[.pointer (some ⟨d, 0, none⟩)]) (h3 : Row w r3 3 #[.int .i64 p]) (hr : w.rangeAt g o (bs.map byteV)) (hl : D.waits.length ≤ 1000000) :
    Calls Try.prog 32 (#[] ++ #[.pointer (some ⟨r1, 0, none⟩), .pointer (some ⟨r2, 0, none⟩), .pointer (some ⟨r3, 0, none⟩)]) w fun e w' => e = .returned (.tuple #[]) ∧ ∃ V', DkAt w' d m1 m2 V' (D.wrote p bs) ∧ Keeps w w' [d, m2] := by
  obtain ⟨X, hX⟩ : ∃ X, leafC bs = X := ⟨_, rfl⟩
  obtain ⟨Z, hZ⟩ : ∃ Z, leafC nought = Z := ⟨_, rfl⟩
  have hz : ∀ w, (zeroValue 72).run Try.prog w = .ok (.agg Z) w := by rw [← hZ]; exact zeroLeaf
  have HX := Lib.hid (show X.size = 256 ∧ X.all (·.oneCell') = true ∧ Z.size = 256 ∧ leafC bs = X from ⟨by rw [← hX, leafC_size, hbs], by rw [← hX]; exact leafC_one bs, by rw [← hZ, leafC_size, nought_length], hX⟩)
  have HR := Lib.hid (show w.rangeAt g o X.toList by rw [← hX, leafC_list]; exact hr)
  have hA := fun w => run_arrayAt (P := Try.prog) 72 _ 256 (some ⟨g, o, none⟩) 256 c undLeaf (Nat.le_refl _) (w := w)
  have HB := Lib.hid (And.intro h1 (And.intro h2 (And.intro h3 (And.intro hd (And.intro hp (And.intro hbs hl))))))
  have HI := Lib.hid (show -9223372036854775808 ≤ p ∧ p ≤ 9223372036854775807 from by have := hd.ok.p4; omega)
  clear h1 h2 h3 hr hX hZ hd hp hbs hl
  have c1 := HB.out.1.cell 0
  have c2 := HB.out.2.1.cell 0
  have c3 := HB.out.2.2.1.cell 0
  simp only [List.getElem?_toArray, List.getElem?_cons_zero] at c1 c2 c3
  go_enter Try.func32, Try.ntmps32
  go_wp2_with (first | (refine wpList_loadLeaf rfl _ rfl g o X HX.out.1 rfl HR.out ?_) | (refine wpList_storeLeaf_new rfl _ _ rfl X Z w rfl HX.out.1 HX.out.2.2.1 HX.out.2.1 rfl rfl ?_))
  clear hz hA c1 c2 c3
  obtain ⟨W1, hW1⟩ : ∃ W', w.alloc (.cells X 72) = W' := ⟨_, rfl⟩
  have k1 : Keeps w W1 [] := by rw [← hW1]; exact Keeps.alloc _ _
  have rx : Row W1 w.heap.size 72 X := by rw [← hW1]; exact Row.new _ _ _
  rw [hW1]
  have HW1 := Lib.hid (And.intro k1 (And.intro rx (And.intro (HB.out.1.keeps k1) (And.intro (HB.out.2.1.keeps k1) (And.intro (HB.out.2.2.1.keeps k1) (HB.out.2.2.2.1.keeps k1))))))
  clear k1 rx hW1
  have M2 := fun (W' : World) (hW : Keeps W1 W' []) => (HW1.out.2.2.2.1.keeps hW).cell 0
  have M3 := fun (W' : World) (hW : Keeps W1 W' []) => (HW1.out.2.2.2.2.1.keeps hW).cell 0
  have MD := fun (W' : World) (hW : Keeps W1 W' []) => (HW1.out.2.2.2.2.2.row.keeps hW).cell 4
  simp only [dkRow, List.getElem?_toArray, List.getElem?_cons_zero, List.getElem?_cons_succ] at M2 M3 MD
  refine wp_region_tail KeepsAll _ 6 (by kernel_rfl) rfl (by kernel_rfl) (fun _ => Keeps.refl _ _) (fun _ _ _ h k => h.trans k (by simp)) (Keeps.drew _) ?_
  simp only [List.take_succ_cons, List.take_zero, List.drop_succ_cons, List.drop_zero]
  apply loose_is
  · intro W vals hW hkn
    clear hkn
    refine ⟨?_⟩
    simp only [fill]
    go_simp
    first | exact ⟨Keeps.refl _ _, rfl⟩ | exact ⟨Keeps.alloc _ _, rfl⟩
  simp only [addEnt]
  apply loose_is
  · intro W vals hW hkn
    clear hkn
    refine ⟨?_⟩
    simp only [fill]
    go_simp
    first | exact ⟨Keeps.refl _ _, rfl⟩ | exact ⟨Keeps.alloc _ _, rfl⟩
  simp only [addEnt]
  apply loose_is
  · intro W vals hW hkn
    clear hkn
    refine ⟨?_⟩
    simp only [fill]
    go_simp
    first | exact ⟨Keeps.refl _ _, rfl⟩ | exact ⟨Keeps.alloc _ _, rfl⟩
  simp only [addEnt]
  apply loose_is
  · intro W vals hW hkn
    clear hkn
    refine ⟨?_⟩
    simp only [fill]
    go_simp
    first | exact ⟨Keeps.refl _ _, rfl⟩ | exact ⟨Keeps.alloc _ _, rfl⟩
  simp only [addEnt]
  apply loose_is
  · intro W vals hW hkn
    clear hkn
    refine ⟨?_⟩
    simp only [fill]
    go_simp
    first | exact ⟨Keeps.refl _ _, rfl⟩ | exact ⟨Keeps.alloc _ _, rfl⟩
  simp only [addEnt]
  apply loose_is
  · intro W vals hW hkn
    clear hkn
    exact opOk_loadLeaf rfl _ rfl w.heap.size 0 X HX.out.1 (by simp only [fill]; go_simp) (Row.range (HW1.out.2.1.keeps hW)) (Keeps.refl _ _)
  simp only [addEnt]
  refine loose_nil (fun W vals hW hkn => ?_)
  simp only [knowsAll] at hkn
  try simp only [and_true] at hkn
  simp only [fill, Act.put, List.setIfInBounds_toArray, List.set_cons_succ, List.set_cons_zero]
  clear hkn
  have HD := Lib.hid (HW1.out.2.2.2.2.2.keeps hW)
  have HK := Lib.hid (And.intro (HW1.out.1.then_ hW) hW)
  obtain ⟨W2, hrun, hp2, hk2, hmt⟩ := HD.out.n.store undIntD undDisk (pageF_dom HD.out.ok.p4 HD.out.ok.n) pageDom_lt HI.out.1 HI.out.2 (leafV bs)
  rw [leafV, HX.out.2.2.2] at hrun
  have HM := Lib.hid (And.intro hp2 hk2)
  clear hp2 hk2 hW
  go_wp2_with fail
  have hd2 : Row W2 d 67 (dkRow D m1 m2 V) := HD.out.row.keep HM.out.2 (by simpa using (imap_ne_row HD.out.n HD.out.row).symm)
  have nr : ∀ {r : Nat} {t : TypeId} {cs : Array Value}, Row W1 r t cs → Row W2 r t cs := fun {r t cs} h => (h.keeps HK.out.2).keep HM.out.2 (by simpa using (imap_ne_row HD.out.n (h.keeps HK.out.2)).symm)
  have HW2 := Lib.hid (And.intro (nr HW1.out.2.1) (And.intro (nr HW1.out.2.2.2.1) (And.intro (nr HW1.out.2.2.2.2.1) (And.intro hd2 (show WaitsAt W2 0 V D.waits from HD.out.w.keep HM.out.2 (fun x hx cs hr => by obtain rfl : x = m2 := (by simpa using hx); exact imap_ne_row HD.out.n hr rfl))))))
  clear nr hd2 M2 M3 MD hrun hmt
  have HLK := Lib.hid (show LightK [⟨10, [5, 9], []⟩] (KeepsOld W2) (oneA 10 KeepsAll) from .one (KeepsOld.ok W2) keepsAll_ok)
  have M2 := fun (W' : World) (hC : KeepsOld W2 W2 W') => (HW2.out.2.1.keeps hC.out).cell 0
  have M3 := fun (W' : World) (hC : KeepsOld W2 W2 W') => (HW2.out.2.2.1.keeps hC.out).cell 0
  have MD := fun (W' : World) (hC : KeepsOld W2 W2 W') => (HW2.out.2.2.2.1.keeps hC.out).cell 5
  simp only [dkRow, List.getElem?_toArray, List.getElem?_cons_zero, List.getElem?_cons_succ] at M2 M3 MD
  refine wp_region_writersL [⟨10, [5, 9], []⟩] (KeepsOld W2) (oneA 10 KeepsAll) _ 11 HLK.out (by kernel_rfl) rfl (by kernel_rfl) ?_
  simp only [List.take_succ_cons, List.take_zero, List.drop_succ_cons, List.drop_zero]
  apply loosek_is 0 _ rfl
  · intro W vals hW hkn
    clear hkn
    have hC := hW.c
    refine ⟨?_⟩
    simp only [fill]
    go_simp
    first | exact ⟨HLK.out.stp (Keeps.refl _ _), rfl⟩ | exact ⟨HLK.out.stp (Keeps.alloc _ _), rfl⟩
  simp only [addEnt]
  apply loosek_is 1 _ rfl
  · intro W vals hW hkn
    clear hkn
    have hC := hW.c
    refine ⟨?_⟩
    simp only [fill]
    go_simp
    first | exact ⟨HLK.out.stp (Keeps.refl _ _), rfl⟩ | exact ⟨HLK.out.stp (Keeps.alloc _ _), rfl⟩
  simp only [addEnt]
  apply loosek_is 2 _ rfl
  · intro W vals hW hkn
    clear hkn
    have hC := hW.c
    refine ⟨?_⟩
    simp only [fill]
    go_simp
    first | exact ⟨HLK.out.stp (Keeps.refl _ _), rfl⟩ | exact ⟨HLK.out.stp (Keeps.alloc _ _), rfl⟩
  simp only [addEnt]
  apply loosek_is 3 _ rfl
  · intro W vals hW hkn
    clear hkn
    have hC := hW.c
    refine ⟨?_⟩
    simp only [fill]
    go_simp
    first | exact ⟨HLK.out.stp (Keeps.refl _ _), rfl⟩ | exact ⟨HLK.out.stp (Keeps.alloc _ _), rfl⟩
  simp only [addEnt]
  apply loosek_is 4 _ rfl
  · intro W vals hW hkn
    clear hkn
    have hC := hW.c
    refine ⟨?_⟩
    simp only [fill]
    go_simp
    first | exact ⟨HLK.out.stp (Keeps.refl _ _), rfl⟩ | exact ⟨HLK.out.stp (Keeps.alloc _ _), rfl⟩
  simp only [addEnt]
  refine loosek_has 5 (fun v W' => WaitsAt W' W2.heap.size v D.waits) rfl (fun W vals hW hkn φ' hφ => ?_) ?_
  · have hC := hW.c
    simp only [knowsK] at hkn
    try simp only [and_true] at hkn
    clear hkn
    refine ⟨?_⟩
    simp only [fill]
    go_simp
    ((with_reducible refine loosek_calls_has HLK.out hφ ?_); refine (cloneW_any W 0 V D.waits (HW2.out.2.2.2.2.keeps hC.out) HB.out.2.2.2.2.2.2).mono ?_; rintro e w5 ⟨v, rfl, h, hk⟩; exact ⟨_, rfl, hk, h.base hC.out.size⟩)
  simp only [addEnt]
  apply loosek_is 6 _ rfl
  · intro W vals hW hkn
    clear hkn
    have hC := hW.c
    refine ⟨?_⟩
    simp only [fill]
    go_simp
    first | exact ⟨HLK.out.stp (Keeps.refl _ _), rfl⟩ | exact ⟨HLK.out.stp (Keeps.alloc _ _), rfl⟩
  simp only [addEnt]
  apply loosek_is 7 _ rfl
  · intro W vals hW hkn
    clear hkn
    exact opOk_loadLeaf rfl _ rfl w.heap.size 0 X HX.out.1 (by simp only [fill]; go_simp) (Row.range (HW2.out.1.keeps hW.c.out)) (HLK.out.stp (Keeps.refl _ _))
  simp only [addEnt]
  apply loosek_is 8 _ rfl
  · intro W vals hW hkn
    clear hkn
    exact opOk_value rfl (exec_build (vals := #[(0, .int .i64 p), (1, .agg X)]) rfl (by simp only [List.map_toArray, List.map_cons, List.map_nil, fill]; go_simp) (run_buildWait W p HX.out.1)) (HLK.out.stp (Keeps.refl _ _)) rfl
  simp only [addEnt]
  refine loosek_has 9 (fun v W' => ∃ g, v = .slice (some ⟨g, 0, none⟩) 1 1 ∧ Row W' g 75 (waitA p X)) rfl (fun W vals hW hkn φ' hφ => ?_) ?_
  · clear hkn
    exact opOk_value rfl (exec_buildSlice (vals := #[(0, .agg (waitA p X))]) rfl (by simp only [List.map_toArray, List.map_cons, List.map_nil, fill]; go_simp) (run_sliceWait W (waitA_size HX.out.1))) (HLK.out.stp (Keeps.alloc _ _)) (hφ.out _ _ ⟨_, rfl, Row.new _ _ _⟩)
  simp only [addEnt]
  refine loosek_has 10 (fun v W' => WaitsAt W' W2.heap.size v (D.waits ++ [(p, bs)])) rfl (fun W vals hW hkn φ' hφ => ?_) ?_
  · simp only [knowsK] at hkn
    try simp only [and_true] at hkn
    obtain ⟨W4, a0, a1, g9, hv, hr9⟩ := hkn.1 (by decide)
    obtain ⟨W5, b0, b1, hw9⟩ := hkn.2 (by decide)
    clear hkn
    have hr9 := hr9.keeps (BtwK.one a1 (.inr (.inr (.inl rfl))))
    have hw9 := hw9.keeps (BtwK.one b1 (.inr (.inr (.inl rfl))))
    obtain ⟨v', w', hrun, h1, h2⟩ := append_wait hw9 (b := bs) HB.out.2.2.2.2.2.2 hr9 HX.out.2.2.2 HB.out.2.2.2.2.2.1 hW.c.out.size
    refine opOk_value rfl (exec_append2 (a := vals 18) (b := .slice (some ⟨g9, 0, none⟩) 1 1) rfl (by simp only [fill]; go_simp) (by simp only [fill]; go_simp) hrun) (.one (fun k => ?_) (fun h => absurd rfl h)) (hφ.out _ _ h1)
    exact k.trans h2 (fun x hx hlt => by have := (ownN_row hw9 x (by simpa using hx)).1; omega)
  simp only [addEnt]
  refine loosek_nil (fun W9 vals hW hkn => ?_)
  simp only [knowsAllK] at hkn
  try simp only [and_true] at hkn
  simp only [fill, Act.put, List.setIfInBounds_toArray, List.set_cons_succ, List.set_cons_zero]
  obtain ⟨⟨Wa, a0, a1, ha⟩, -, -⟩ := hkn
  have ha := ha.keeps (PostK.one a1 (.inl rfl))
  obtain ⟨A9, c9, hv, _⟩ := ha.slice
  rw [hv] at ha
  obtain ⟨n9, hn9⟩ : ∃ n, (D.waits ++ [(p, bs)]).length = n := ⟨_, rfl⟩
  rw [hn9] at ha hv
  have hd9 := HW2.out.2.2.2.1.keeps hW.out
  have f0 := hd9.cell 0
  have f1 := hd9.cell 1
  have f2 := hd9.cell 2
  have f3 := hd9.cell 3
  have f4 := hd9.cell 4
  have f5 := hd9.cell 5
  have f6 := hd9.cell 6
  have f7 := hd9.cell 7
  simp only [dkRow, List.getElem?_toArray, List.getElem?_cons_zero, List.getElem?_cons_succ] at f0 f1 f2 f3 f4 f5 f6 f7
  have f8 := hd9.frozen 5
  have HE := Lib.hid (And.intro ha (And.intro hd9 hW.out))
  clear a0 a1 ha hd9 hW M2 M3 MD hn9
  rw [hv]
  go_wp2_with fail
  refine bodyPost_end (results_none rfl _ _ _) rfl ?_
  have hrow := HE.out.2.1.store 5 (.slice A9 n9 c9)
  have kk : Keeps W2 (W9.setCell ⟨d, 5, none⟩ (.slice A9 n9 c9)) [d] := (HE.out.2.2.weaken (T := [d]) (by simp)).trans (Keeps.setCell _ _ _) (fun x hx _ => hx)
  have nd1 := imap_ne_row HD.out.l HD.out.row
  have nd2 := imap_ne_row HD.out.n HD.out.row
  refine ⟨rfl, .slice A9 n9 c9, ⟨hrow, ?_, ?_, ?_, HD.out.ne, HD.out.ok.wrote HB.out.2.2.2.2.1 HB.out.2.2.2.2.2.1⟩, ?_⟩
  · exact (HD.out.l.keep HM.out.2 (by simpa using HD.out.ne)).keep kk (by simpa using nd1)
  · have := pageF_wrote D p bs
    show IMap _ _ _ m2 (pageF (D.wrote p bs).now)
    rw [← this]
    exact HM.out.1.keep kk (by simpa using nd2)
  · exact (HE.out.1.base (Nat.zero_le _)).keep (Keeps.setCell _ _ _) (fun x hx cs hr => by obtain rfl : x = d := (by simpa using hx); exact Row.ne_type hr HE.out.2.1 (by decide) rfl)
  · exact ((HK.out.1.weaken (T := [d, m2]) (by simp)).trans HM.out.2 (by simp)).trans kk (by simp)
end Go.Proofs.Ytehlabdbbbbopaa

namespace Go.Proofs.Ytehlabdbbbbopaa
open Go.RowKit Go.Maps Go.Shelf

/-- All that was there stays, but for block K. -/
abbrev ButK (K : Nat) (w w' : World) : Prop := Keeps w w' [K]
theorem keepsBut_ok (d : Nat) : RelOk (ButK d) := ⟨fun h => h.weaken (by simp), fun h k => h.trans k (fun _ h _ => h)⟩
/-- maps.Clone of pages. -/
theorem cloneD_any {w : World} {b : Nat} {f : Int → Option (List UInt8)} (h : DMap w b f) :
    Calls Try.prog 31 #[.map (some b)] w fun e w' => e = .returned (.map (some w.heap.size)) ∧ DMap w' w.heap.size f ∧ Keeps w w' [] := by
  obtain ⟨D, ⟨es, clock, hb, F, hs, hD⟩, hT⟩ := h
  refine (AnyW.maps_Clone Try.cloneM b es clock w hb).mono ?_
  rintro e w' ⟨rfl, rfl⟩
  exact ⟨rfl, ⟨D, ⟨es, clock, heap_alloc_new w _, F, hs, hD⟩, hT⟩, Keeps.alloc _ _⟩
def Dk.flushed (D : Dk) : Dk := { D with lasts := D.now, waits := [] }
theorem DkOk.flushed {D : Dk} (h : DkOk D) : DkOk D.flushed := ⟨h.p2, h.p4, h.n, h.n, fun p hp => (by cases hp), h.k, h.s, h.lf⟩
set_option maxRecDepth 100000 in
set_option maxHeartbeats 1000000 in
theorem flushFn_any (w : World) (r d m1 m2 : Nat) (V : Value) (D : Dk) (hd : DkAt w d m1 m2 V D) (h2 : Row w r 24 #[.pointer (some ⟨d, 0, none⟩)]) :
    Calls Try.prog 30 (#[] ++ #[.pointer (some ⟨r, 0, none⟩)]) w fun e w' => e = .returned (.tuple #[]) ∧ ∃ m1', DkAt w' d m1' m2 (.slice none 0 0) D.flushed ∧ w.heap.size ≤ m1' ∧ Keeps w w' [d] := by
  have HB := Lib.hid (And.intro hd (And.intro h2 (Row.ne_type h2 hd.row (by decide))))
  clear hd h2
  have HLK := Lib.hid (show LightK [⟨9, [5, 6], []⟩] (ButK d) (oneA 9 KeepsAll) from .one (keepsBut_ok d) keepsAll_ok)
  have M2 := fun (W' : World) (hC : ButK d w W') => (HB.out.2.1.keep hC (by simpa using HB.out.2.2)).cell 0
  have MD := fun (W' : World) (hR : KeepsAll w W') => (HB.out.1.row.keeps hR).cell 4
  simp only [dkRow, List.getElem?_toArray, List.getElem?_cons_zero, List.getElem?_cons_succ] at M2 MD
  have nd2 := imap_ne_row HB.out.1.n HB.out.1.row
  go_enter Try.func30, Try.ntmps30
  go_wp2_with fail
  refine wp_region_writersL [⟨9, [5, 6], []⟩] (ButK d) (oneA 9 KeepsAll) _ 10 HLK.out (by kernel_rfl) rfl (by kernel_rfl) ?_
  simp only [List.take_succ_cons, List.take_zero, List.drop_succ_cons, List.drop_zero]
  apply loosek_is 0 _ rfl
  · intro W vals hW hkn
    clear hkn
    have hC := hW.c
    refine ⟨?_⟩
    simp only [fill]
    go_simp
    first | exact ⟨HLK.out.stp (Keeps.refl _ _), rfl⟩ | exact ⟨HLK.out.stp (Keeps.alloc _ _), rfl⟩
  simp only [addEnt]
  apply loosek_is 1 _ rfl
  · intro W vals hW hkn
    clear hkn
    have hC := hW.c
    refine ⟨?_⟩
    simp only [fill]
    go_simp
    first | exact ⟨HLK.out.stp (Keeps.refl _ _), rfl⟩ | exact ⟨HLK.out.stp (Keeps.alloc _ _), rfl⟩
  simp only [addEnt]
  apply loosek_is 2 _ rfl
  · intro W vals hW hkn
    clear hkn
    have hC := hW.c
    refine ⟨?_⟩
    simp only [fill]
    go_simp
    first | exact ⟨HLK.out.stp (Keeps.refl _ _), rfl⟩ | exact ⟨HLK.out.stp (Keeps.alloc _ _), rfl⟩
  simp only [addEnt]
  apply loosek_is 3 _ rfl
  · intro W vals hW hkn
    clear hkn
    have hC := hW.c
    refine ⟨?_⟩
    simp only [fill]
    go_simp
    first | exact ⟨HLK.out.stp (Keeps.refl _ _), rfl⟩ | exact ⟨HLK.out.stp (Keeps.alloc _ _), rfl⟩
  simp only [addEnt]
  apply loosek_is 4 _ rfl
  · intro W vals hW hkn
    clear hkn
    have hC := hW.c
    refine ⟨?_⟩
    simp only [fill]
    go_simp
    first | exact ⟨HLK.out.stp (Keeps.refl _ _), rfl⟩ | exact ⟨HLK.out.stp (Keeps.alloc _ _), rfl⟩
  simp only [addEnt]
  apply loosek_is 5 _ rfl
  · intro W vals hW hkn
    have hC := hW.c
    simp only [knowsK] at hkn
    try simp only [and_true] at hkn
    clear hkn; have hR := PreK.one hW (.inr (by decide))
    refine ⟨?_⟩
    simp only [fill]
    go_simp
    first | exact ⟨HLK.out.stp (Keeps.refl _ _), rfl⟩ | exact ⟨HLK.out.stp (Keeps.alloc _ _), rfl⟩
  simp only [addEnt]
  refine loosek_has 6 (fun v W' => ∃ b, v = .map (some b) ∧ DMap W' b D.now ∧ w.heap.size ≤ b) rfl (fun W vals hW hkn φ' hφ => ?_) ?_
  · have hC := hW.c
    simp only [knowsK] at hkn
    try simp only [and_true] at hkn
    clear hkn
    refine ⟨?_⟩
    simp only [fill]
    go_simp
    ((with_reducible refine loosek_calls_has HLK.out hφ ?_); refine (cloneD_any (HB.out.1.n.keep hC (by simpa using nd2))).mono ?_; rintro e w5 ⟨rfl, h, hk⟩; exact ⟨_, rfl, hk, _, rfl, h, hC.size⟩)
  simp only [addEnt]
  apply loosek_is 7 _ rfl
  · intro W vals hW hkn
    clear hkn
    have hC := hW.c
    refine ⟨?_⟩
    simp only [fill]
    go_simp
    first | exact ⟨HLK.out.stp (Keeps.refl _ _), rfl⟩ | exact ⟨HLK.out.stp (Keeps.alloc _ _), rfl⟩
  simp only [addEnt]
  apply loosek_is 8 _ rfl
  · intro W vals hW hkn
    clear hkn
    have hC := hW.c
    refine ⟨?_⟩
    simp only [fill]
    go_simp
    first | exact ⟨HLK.out.stp (Keeps.refl _ _), rfl⟩ | exact ⟨HLK.out.stp (Keeps.alloc _ _), rfl⟩
  simp only [addEnt]
  refine loosek_has 9 (fun _ W' => ∃ b, DMap W' b D.now ∧ w.heap.size ≤ b ∧ Row W' d 67 (dkRow { D with lasts := D.now } b m2 V)) rfl (fun W vals hW hkn φ' hφ => ?_) ?_
  · have hC := hW.c
    simp only [knowsK] at hkn
    try simp only [and_true] at hkn
    obtain ⟨W1, h0, h1, b9, hv, hm, hb⟩ := hkn (by decide); clear hkn; have hR := PreK.one hW (.inl rfl); have hd9 := HB.out.1.row.keeps hR; have HD9 := Lib.hid (And.intro hd9 (And.intro (hm.keep h1.c (by have := HB.out.1.row.lt; simp; omega)) hb)); have f3 := hd9.cell 3; have z3 := hd9.frozen 3; simp only [dkRow, List.getElem?_toArray, List.getElem?_cons_zero, List.getElem?_cons_succ] at f3; clear hd9 hR h0 h1 hm hb hC hW
    refine ⟨?_⟩
    simp only [fill]
    go_simp
    exact ⟨.one (Keeps.setCell _ _ _) (fun h => absurd rfl h), hφ.out _ _ ⟨b9, HD9.out.2.1.keep (Keeps.setCell _ _ _) (by have := HD9.out.2.2; have := HB.out.1.row.lt; simp; omega), HD9.out.2.2, HD9.out.1.store 3 _⟩⟩
  simp only [addEnt]
  refine loosek_nil (fun W9 vals hW hkn => ?_)
  simp only [knowsAllK] at hkn
  try simp only [and_true] at hkn
  simp only [fill, Act.put, List.setIfInBounds_toArray, List.set_cons_succ, List.set_cons_zero]
  obtain ⟨⟨_, Wa, a0, a1, b9, hm9, hb9, hr9⟩, -⟩ := hkn
  have hk9 := PostK.one a1 (.inl rfl)
  have hd9 := hr9.keeps hk9
  have HE := Lib.hid (And.intro (hm9.keep hk9 (by simp)) (And.intro hb9 (And.intro hd9 hW)))
  have f5 := hd9.cell 5
  have z5 := hd9.frozen 5
  have g0 := M2 _ hW
  simp only [dkRow, List.getElem?_toArray, List.getElem?_cons_zero, List.getElem?_cons_succ] at f5
  clear a0 a1 hm9 hb9 hr9 hk9 hd9 hW M2 MD
  go_wp2_with fail
  refine bodyPost_end (results_none rfl _ _ _) rfl ?_
  have hrow := HE.out.2.2.1.store 5 (.slice none 0 0)
  have kk : Keeps w (W9.setCell ⟨d, 5, none⟩ (.slice none 0 0)) [d] := HE.out.2.2.2.trans (Keeps.setCell _ _ _) (fun _ h _ => h)
  have hlt := HB.out.1.row.lt
  refine ⟨rfl, b9, ⟨hrow, ?_, HB.out.1.n.keep kk (by simpa using nd2), WaitsAt.nil _ _, ?_, HB.out.1.ok.flushed⟩, HE.out.2.1, kk⟩
  · exact HE.out.1.keep (Keeps.setCell _ _ _) (by have := HE.out.2.1; simp; omega)
  · have := HE.out.2.1
    have := IMap.lt HB.out.1.n
    omega
end Go.Proofs.Ytehlabdbbbbopaa

namespace Go.Proofs.Ytehlabdbbbbopaa
open Go.RowKit Go.Maps

theorem wpList_insert_int {P : Program} {k e t : TypeId} {b : Nat} {f : Int → Option Value} {w : World} {ops : Array Oper} {rest : List Oper} {o : Oper} {a : Act} {Q : Exit → Act → World → Prop}
    (hg : o.guard = none) (m x v : Operand) (hop : o.op = Op.insert t m x v) (hm : a.eval m = .map (some b)) (h : IMap w P k b f) (hk : P.underlying k = some (.int .i64)) (ht : P.underlying t = some (.map k e)) {ks : List Int} (hs : ∀ x, f x ≠ none → x ∈ ks) (hl : ks.length < maxLen)
    (y : Int) (val : Value) (hx : a.eval x = .int .i64 y) (hv : a.eval v = val) (h1 : -9223372036854775808 ≤ y) (h2 : y ≤ 9223372036854775807)
    (hK : ∀ w', IMap w' P k b (upd f y (some val)) → Keeps w w' [b] → wpList P ops Q rest (a.put o.dst undef) w') : wpList P ops Q (o :: rest) a w := by
  refine wpList_plain hg fun K' hK' => ?_
  obtain ⟨w', hrun, r1, r2, _⟩ := h.store hk ht hs hl h1 h2 val
  unfold Oper.wp
  simp [execOp, hop, hm, hx, hv, hrun, Result.andThen]
  exact hK' _ _ (hK w' r1 r2)
theorem undArm : Try.prog.underlying 28 = some (.int .i64) := by kernel_rfl
theorem undArms : Try.prog.underlying 90 = some (.map 28 25) := by kernel_rfl
theorem zeroErr (w : World) : (zeroValue 25).run Try.prog w = .ok (.int .i64 0) w := by kernel_rfl
/-- What a step answers ahead of it. -/
def Dk.code (D : Dk) : Nat := if D.dead = true then 120 else if D.kind = 0 then 0 else if D.left = 0 then (if D.kind = 1 then 120 else 121) else 0
def Dk.refused (D : Dk) : Dk := if D.dead = true then D else { D with kind := 0, left := 0, dead := D.kind == 1 }
def Dk.ticked (D : Dk) : Dk := if D.kind = 0 then D else { D with left := D.left - 1 }
def Dk.counted (D : Dk) : Dk := { D with steps := RowKit.wrap64 (D.steps + 1) }
theorem Dk.code_zero {D : Dk} (h : D.code = 0) : D.dead = false ∧ (D.kind = 0 ∨ D.left ≠ 0) := by
  unfold Dk.code at h
  by_cases h1 : D.dead = true
  · rw [if_pos h1] at h; cases h
  · rw [if_neg h1] at h
    refine ⟨by simpa using h1, ?_⟩
    by_cases h2 : D.kind = 0
    · exact .inl h2
    · rw [if_neg h2] at h
      refine .inr fun h3 => ?_
      rw [if_pos h3] at h
      split at h <;> cases h
theorem wrap_in (n : Int) : -9223372036854775808 ≤ RowKit.wrap64 n ∧ RowKit.wrap64 n ≤ 9223372036854775807 := by
  unfold RowKit.wrap64
  omega
theorem DkOk.ticked {D : Dk} (h : DkOk D) (hc : D.code = 0) : DkOk D.ticked := by
  unfold Dk.ticked
  split
  · exact h
  · rename_i hk
    refine ⟨h.p2, h.p4, h.l, h.n, h.w, h.k, h.s, ?_⟩
    have h1 := (Dk.code_zero hc).2
    have h2 := h.lf
    show -9223372036854775808 ≤ D.left - 1 ∧ D.left - 1 ≤ 9223372036854775807 ∧ (D.kind = 0 ∨ 0 ≤ D.left - 1)
    omega
theorem DkOk.counted {D : Dk} (h : DkOk D) : DkOk D.counted := ⟨h.p2, h.p4, h.l, h.n, h.w, h.k, wrap_in (D.steps + 1), h.lf⟩
theorem DkOk.refused {D : Dk} (h : DkOk D) : DkOk D.refused := by
  unfold Dk.refused
  split
  · exact h
  · exact ⟨h.p2, h.p4, h.l, h.n, h.w, ⟨Int.le_refl _, by show (0 : Int) ≤ 2; omega⟩, h.s, by show (-9223372036854775808 : Int) ≤ 0; omega, by show (0 : Int) ≤ 9223372036854775807; omega, .inl rfl⟩
theorem DkAt.row_only {w w' : World} {d m1 m2 : Nat} {V : Value} {D D' : Dk} (h : DkAt w d m1 m2 V D) (hk : Keeps w w' [d]) (hr : Row w' d 67 (dkRow D' m1 m2 V)) (e : D'.lasts = D.lasts ∧ D'.now = D.now ∧ D'.waits = D.waits) (ok : DkOk D') : DkAt w' d m1 m2 V D' := by
  have nd1 := imap_ne_row h.l h.row
  have nd2 := imap_ne_row h.n h.row
  obtain ⟨e1, e2, e3⟩ := e
  refine ⟨hr, ?_, ?_, ?_, h.ne, ok⟩
  · rw [e1]; exact h.l.keep hk (by simpa using nd1)
  · rw [e2]; exact h.n.keep hk (by simpa using nd2)
  · rw [e3]; exact h.w.keep hk (fun x hx cs hr' => by obtain rfl : x = d := (by simpa using hx); exact Row.ne_type hr' h.row (by decide) rfl)
theorem arms_row {w w1 w2 : World} {d : Nat} {t : TypeId} {cs : Array Value} {o : Obj} (hr : Row w d t cs) (k1 : Keeps (w.alloc o) w1 [w.heap.size]) (k2 : Keeps w1 w2 [w.heap.size]) : Row w2 d t cs ∧ Keeps w w2 [] := by
  have hlt := hr.lt
  refine ⟨((hr.alloc o).keep k1 (by simp; omega)).keep k2 (by simp; omega), (((Keeps.alloc w o).weaken (T := [w.heap.size]) (by simp)).trans k1 (by simp)).trans k2 (by simp) |>.weaken (fun x hx hlt => by simp at hx; omega)⟩
theorem arms_look {w : World} {b : Nat} (h : IMap w Try.prog 28 b (upd (upd (fun _ => none) 1 (some (.int .i64 120))) 2 (some (.int .i64 121)))) :
    (Instr.lookup 90 (.map (some b)) (.int .i64 1) false).run Try.prog w = .ok (.int .i64 120) w ∧ (Instr.lookup 90 (.map (some b)) (.int .i64 2) false).run Try.prog w = .ok (.int .i64 121) w :=
  ⟨h.look undArm undArms (zeroErr w) (by omega) (by omega) false, h.look undArm undArms (zeroErr w) (by omega) (by omega) false⟩
theorem arms_dom1 : ∀ x, upd (fun _ => (none : Option Value)) 1 (some (.int .i64 120)) x ≠ none → x ∈ [(1 : Int)] := fun x h => by
  by_cases hx : x = 1
  · simp [hx]
  · rw [upd_other _ hx] at h
    exact absurd rfl h
set_option maxRecDepth 100000 in
set_option maxHeartbeats 1000000 in
theorem dkStep_no (w : World) (d m1 m2 : Nat) (V : Value) (D : Dk) (hd : DkAt w d m1 m2 V D) (hc : D.code ≠ 0) (fv : Value) :
    Calls Try.prog 29 #[.pointer (some ⟨d, 0, none⟩), fv] w fun e w' => e = .returned (.int .i64 (D.code : Nat)) ∧ DkAt w' d m1 m2 V D.refused ∧ Keeps w w' [d] := by
  have HB := Lib.hid hd
  by_cases hdd : D.dead = true
  · have hcd : D.code = 120 := by unfold Dk.code; rw [if_pos hdd]
    have hrd : D.refused = D := by unfold Dk.refused; rw [if_pos hdd]
    have HC := Lib.hid (And.intro hcd hrd)
    have hr := hd.row
    have f0 := hr.cell 0
    have f1 := hr.cell 1
    have f2 := hr.cell 2
    have f3 := hr.cell 3
    have f4 := hr.cell 4
    have f5 := hr.cell 5
    have f6 := hr.cell 6
    have f7 := hr.cell 7
    simp only [dkRow, List.getElem?_toArray, List.getElem?_cons_zero, List.getElem?_cons_succ] at f0 f1 f2 f3 f4 f5 f6 f7
    rw [hdd] at f6
    clear hr hd hc hcd hrd hdd
    go_enter Try.func29, Try.ntmps29
    go_wp2_with fail
    go_ret
    exact ⟨by rw [HC.out.1]; rfl, by rw [HC.out.2]; exact HB.out, Keeps.refl _ _⟩
  · have hc' := hc
    unfold Dk.code at hc'
    rw [if_neg hdd] at hc'
    have hk0 : D.kind ≠ 0 := fun h => by rw [if_pos h] at hc'; exact hc' rfl
    rw [if_neg hk0] at hc'
    have hl0 : D.left = 0 := by
      by_cases h : D.left = 0
      · exact h
      · rw [if_neg h] at hc'; exact absurd rfl hc'
    have hk := hd.ok.k
    have hdd' : D.dead = false := by simpa using hdd
    have hrd : D.refused = { D with kind := 0, left := 0, dead := D.kind == 1 } := by unfold Dk.refused; rw [if_neg hdd]
    have hr := hd.row
    have f0 := hr.cell 0
    have f1 := hr.cell 1
    have f2 := hr.cell 2
    have f3 := hr.cell 3
    have f4 := hr.cell 4
    have f5 := hr.cell 5
    have f6 := hr.cell 6
    have f7 := hr.cell 7
    simp only [dkRow, List.getElem?_toArray, List.getElem?_cons_zero, List.getElem?_cons_succ] at f0 f1 f2 f3 f4 f5 f6 f7
    have z0 := hr.frozen 0
    have z1 := hr.frozen 1
    have z2 := hr.frozen 2
    have z3 := hr.frozen 3
    have z4 := hr.frozen 4
    have z5 := hr.frozen 5
    have z6 := hr.frozen 6
    have z7 := hr.frozen 7
    rw [hdd'] at f6
    rw [hl0] at f1
    have hmm := @run_makeMap Try.prog
    have nd1 := imap_ne_row hd.l hd.row
    have nd2 := imap_ne_row hd.n hd.row
    by_cases hk1 : D.kind = 1
    · have hcd : D.code = 120 := by unfold Dk.code; rw [if_neg hdd, if_neg hk0, if_pos hl0, if_pos hk1]
      have hrd : D.refused = { D with kind := 0, left := 0, dead := true } := by rw [hrd, hk1]; rfl
      have HC := Lib.hid (And.intro hcd (And.intro hrd (And.intro hk1 (And.intro nd1 nd2))))
      rw [hk1] at f0
      have HL := Lib.hid hl0
      have HDD := Lib.hid hdd'
      clear hr hd hc hc' hcd hrd hdd hdd' hk0 hl0 hk hk1 nd1 nd2
      go_enter Try.func29, Try.ntmps29
      go_wp2_with (first | (refine wpList_insert_int rfl _ _ _ rfl rfl (IMap.made _ _ _) undArm undArms (ks := []) (fun x h => absurd rfl h) (by simp [maxLen]) 1 (.int .i64 120) rfl rfl (by omega) (by omega) ?_; intro w1 hm1 hk1; have HM1 := Lib.hid (And.intro hm1 hk1); clear hm1 hk1) | (refine wpList_insert_int rfl _ _ _ rfl rfl HM1.out.1 undArm undArms (ks := [1]) (arms_dom1) (by simp [maxLen]) 2 (.int .i64 121) rfl rfl (by omega) (by omega) ?_; intro w2 hm2 hk2; have HM2 := Lib.hid (arms_row HB.out.row HM1.out.2 hk2); have hq := HM2.out.1; have g0 := hq.cell 0; have g1 := hq.cell 1; have g6 := hq.cell 6; have y0 := hq.frozen 0; have y1 := hq.frozen 1; have y6 := hq.frozen 6; obtain ⟨hlk1, hlk2⟩ := arms_look hm2; simp only [dkRow, HC.out.2.2.1, HL.out, HDD.out, List.getElem?_toArray, List.getElem?_cons_zero, List.getElem?_cons_succ] at g0 g1 g6; clear hm2 hk2 hq))
      go_ret
      have kk : Keeps w (((w2.setCell ⟨d, 6, none⟩ (.bool true)).setCell ⟨d, 0, none⟩ (.int .i64 0)).setCell ⟨d, 1, none⟩ (.int .i64 0)) [d] := (((HM2.out.2.weaken (T := [d]) (by simp)).trans (Keeps.setCell _ _ _) (fun _ h _ => h)).trans (Keeps.setCell _ _ _) (fun _ h _ => h)).trans (Keeps.setCell _ _ _) (fun _ h _ => h)
      refine ⟨by rw [HC.out.1]; rfl, ?_, kk⟩
      rw [HC.out.2.1]
      exact HB.out.row_only kk (((HM2.out.1.store 6 _).store 0 _).store 1 _) ⟨rfl, rfl, rfl⟩ (by have := HB.out.ok.refused; rwa [HC.out.2.1] at this)
    · have hk2 : D.kind = 2 := by omega
      have hcd : D.code = 121 := by unfold Dk.code; rw [if_neg hdd, if_neg hk0, if_pos hl0, if_neg hk1]
      have hrd : D.refused = { D with kind := 0, left := 0, dead := false } := by rw [hrd, hk2]; rfl
      have HC := Lib.hid (And.intro hcd (And.intro hrd (And.intro hk2 (And.intro nd1 nd2))))
      rw [hk2] at f0
      have HL := Lib.hid hl0
      have HDD := Lib.hid hdd'
      clear hr hd hc hc' hcd hrd hdd hdd' hk0 hl0 hk hk1 hk2 nd1 nd2
      go_enter Try.func29, Try.ntmps29
      go_wp2_with (first | (refine wpList_insert_int rfl _ _ _ rfl rfl (IMap.made _ _ _) undArm undArms (ks := []) (fun x h => absurd rfl h) (by simp [maxLen]) 1 (.int .i64 120) rfl rfl (by omega) (by omega) ?_; intro w1 hm1 hk1; have HM1 := Lib.hid (And.intro hm1 hk1); clear hm1 hk1) | (refine wpList_insert_int rfl _ _ _ rfl rfl HM1.out.1 undArm undArms (ks := [1]) (arms_dom1) (by simp [maxLen]) 2 (.int .i64 121) rfl rfl (by omega) (by omega) ?_; intro w2 hm2 hk2; have HM2 := Lib.hid (arms_row HB.out.row HM1.out.2 hk2); have hq := HM2.out.1; have g0 := hq.cell 0; have g1 := hq.cell 1; have g6 := hq.cell 6; have y0 := hq.frozen 0; have y1 := hq.frozen 1; have y6 := hq.frozen 6; obtain ⟨hlk1, hlk2⟩ := arms_look hm2; simp only [dkRow, HC.out.2.2.1, HL.out, HDD.out, List.getElem?_toArray, List.getElem?_cons_zero, List.getElem?_cons_succ] at g0 g1 g6; clear hm2 hk2 hq))
      go_ret
      have kk : Keeps w (((w2.setCell ⟨d, 6, none⟩ (.bool false)).setCell ⟨d, 0, none⟩ (.int .i64 0)).setCell ⟨d, 1, none⟩ (.int .i64 0)) [d] := (((HM2.out.2.weaken (T := [d]) (by simp)).trans (Keeps.setCell _ _ _) (fun _ h _ => h)).trans (Keeps.setCell _ _ _) (fun _ h _ => h)).trans (Keeps.setCell _ _ _) (fun _ h _ => h)
      refine ⟨by rw [HC.out.1]; rfl, ?_, kk⟩
      rw [HC.out.2.1]
      exact HB.out.row_only kk (((HM2.out.1.store 6 _).store 0 _).store 1 _) ⟨rfl, rfl, rfl⟩ (by have := HB.out.ok.refused; rwa [HC.out.2.1] at this)
set_option maxRecDepth 100000 in
set_option maxHeartbeats 1000000 in
theorem dkStep_write (w : World) (d m1 m2 r1 r2 r3 : Nat) (V : Value) (D D2 : Dk) (hd : DkAt w d m1 m2 V D) (hc : D.code = 0)
    (hdo : ∀ w1, DkAt w1 d m1 m2 V D.ticked → Keeps w w1 [d, m2] → Calls Try.prog 32 (#[] ++ #[.pointer (some ⟨r1, 0, none⟩), .pointer (some ⟨r2, 0, none⟩), .pointer (some ⟨r3, 0, none⟩)]) w1 fun e w2 => e = .returned (.tuple #[]) ∧ ∃ m1' V', DkAt w2 d m1' m2 V' D2 ∧ (m1' = m1 ∨ w.heap.size ≤ m1') ∧ Keeps w1 w2 [d, m2]) :
    Calls Try.prog 29 #[.pointer (some ⟨d, 0, none⟩), .func (.func 32) #[] #[.pointer (some ⟨r1, 0, none⟩), .pointer (some ⟨r2, 0, none⟩), .pointer (some ⟨r3, 0, none⟩)]] w fun e w' => e = .returned (.int .i64 0) ∧ ∃ m1' V', DkAt w' d m1' m2 V' D2.counted ∧ (m1' = m1 ∨ w.heap.size ≤ m1') ∧ Keeps w w' [d, m2] := by
  obtain ⟨h1, h2⟩ := Dk.code_zero hc
  have hr := hd.row
  have f0 := hr.cell 0
  have f1 := hr.cell 1
  have f2 := hr.cell 2
  have f3 := hr.cell 3
  have f4 := hr.cell 4
  have f5 := hr.cell 5
  have f6 := hr.cell 6
  have f7 := hr.cell 7
  simp only [dkRow, List.getElem?_toArray, List.getElem?_cons_zero, List.getElem?_cons_succ] at f0 f1 f2 f3 f4 f5 f6 f7
  have z0 := hr.frozen 0
  have z1 := hr.frozen 1
  have z2 := hr.frozen 2
  have z3 := hr.frozen 3
  have z4 := hr.frozen 4
  have z5 := hr.frozen 5
  have z6 := hr.frozen 6
  have z7 := hr.frozen 7
  rw [h1] at f6
  by_cases hk0 : D.kind = 0
  · have ht : D.ticked = D := by unfold Dk.ticked; rw [if_pos hk0]
    have HT := Lib.hid (show DkAt w d m1 m2 V D.ticked ∧ Keeps w w [d, m2] from ⟨by rw [ht]; exact hd, Keeps.refl _ _⟩)
    have HB := Lib.hid (And.intro hd hdo)
    rw [hk0] at f0
    clear hd hdo h2 hk0 ht hr hc
    go_enter Try.func29, Try.ntmps29
    go_wp2_with fail
    refine (HB.out.2 _ HT.out.1 HT.out.2).mono ?_
    rintro e w5 ⟨rfl, m1', V', h5, h6, h7⟩
    have H5 := Lib.hid (And.intro h5 (And.intro h6 (HT.out.2.trans h7 (T := [d, m2]) (S := [d, m2]) (fun _ h _ => h) |> fun h => h)))
    have hr := h5.row
    have g6 := hr.cell 7
    have y6 := hr.frozen 7
    simp only [dkRow, List.getElem?_toArray, List.getElem?_cons_zero, List.getElem?_cons_succ] at g6
    clear h5 h6 h7 hr
    go_wp2_with fail
    go_ret
    refine ⟨rfl, m1', V', H5.out.1.row_only (Keeps.setCell _ _ _) (H5.out.1.row.store 7 _) ⟨rfl, rfl, rfl⟩ H5.out.1.ok.counted, H5.out.2.1, H5.out.2.2.trans (Keeps.setCell _ _ _) (by simp)⟩
  · have hl0 : D.left ≠ 0 := h2.resolve_left hk0
    have hlf := hd.ok.lf
    have ht : D.ticked = { D with left := D.left - 1 } := by unfold Dk.ticked; rw [if_neg hk0]
    have hwr : IntKind.i64.wrap (D.left - 1) = D.left - 1 := IntWalk.i64_in _ (by omega)
    have HT := Lib.hid (show DkAt (w.setCell ⟨d, 1, none⟩ (.int .i64 (D.left - 1))) d m1 m2 V D.ticked ∧ Keeps w (w.setCell ⟨d, 1, none⟩ (.int .i64 (D.left - 1))) [d, m2] from ⟨by
      have := hd.ok.ticked hc
      rw [ht] at this ⊢
      exact hd.row_only (Keeps.setCell _ _ _) (hd.row.store 1 _) ⟨rfl, rfl, rfl⟩ this, (Keeps.setCell _ _ _).weaken (by simp)⟩)
    have HB := Lib.hid (And.intro hd hdo)
    clear hd hdo h2 ht hr hc hlf
    go_enter Try.func29, Try.ntmps29
    go_wp2_with fail
    refine (HB.out.2 _ HT.out.1 HT.out.2).mono ?_
    rintro e w5 ⟨rfl, m1', V', h5, h6, h7⟩
    have H5 := Lib.hid (And.intro h5 (And.intro h6 (HT.out.2.trans h7 (T := [d, m2]) (S := [d, m2]) (fun _ h _ => h) |> fun h => h)))
    have hr := h5.row
    have g6 := hr.cell 7
    have y6 := hr.frozen 7
    simp only [dkRow, List.getElem?_toArray, List.getElem?_cons_zero, List.getElem?_cons_succ] at g6
    clear h5 h6 h7 hr
    go_wp2_with fail
    go_ret
    refine ⟨rfl, m1', V', H5.out.1.row_only (Keeps.setCell _ _ _) (H5.out.1.row.store 7 _) ⟨rfl, rfl, rfl⟩ H5.out.1.ok.counted, H5.out.2.1, H5.out.2.2.trans (Keeps.setCell _ _ _) (by simp)⟩
set_option maxRecDepth 100000 in
set_option maxHeartbeats 1000000 in
theorem dkStep_flush (w : World) (d m1 m2 r : Nat) (V : Value) (D D2 : Dk) (hd : DkAt w d m1 m2 V D) (hc : D.code = 0)
    (hdo : ∀ w1, DkAt w1 d m1 m2 V D.ticked → Keeps w w1 [d, m2] → Calls Try.prog 30 (#[] ++ #[.pointer (some ⟨r, 0, none⟩)]) w1 fun e w2 => e = .returned (.tuple #[]) ∧ ∃ m1' V', DkAt w2 d m1' m2 V' D2 ∧ (m1' = m1 ∨ w.heap.size ≤ m1') ∧ Keeps w1 w2 [d, m2]) :
    Calls Try.prog 29 #[.pointer (some ⟨d, 0, none⟩), .func (.func 30) #[] #[.pointer (some ⟨r, 0, none⟩)]] w fun e w' => e = .returned (.int .i64 0) ∧ ∃ m1' V', DkAt w' d m1' m2 V' D2.counted ∧ (m1' = m1 ∨ w.heap.size ≤ m1') ∧ Keeps w w' [d, m2] := by
  obtain ⟨h1, h2⟩ := Dk.code_zero hc
  have hr := hd.row
  have f0 := hr.cell 0
  have f1 := hr.cell 1
  have f2 := hr.cell 2
  have f3 := hr.cell 3
  have f4 := hr.cell 4
  have f5 := hr.cell 5
  have f6 := hr.cell 6
  have f7 := hr.cell 7
  simp only [dkRow, List.getElem?_toArray, List.getElem?_cons_zero, List.getElem?_cons_succ] at f0 f1 f2 f3 f4 f5 f6 f7
  have z0 := hr.frozen 0
  have z1 := hr.frozen 1
  have z2 := hr.frozen 2
  have z3 := hr.frozen 3
  have z4 := hr.frozen 4
  have z5 := hr.frozen 5
  have z6 := hr.frozen 6
  have z7 := hr.frozen 7
  rw [h1] at f6
  by_cases hk0 : D.kind = 0
  · have ht : D.ticked = D := by unfold Dk.ticked; rw [if_pos hk0]
    have HT := Lib.hid (show DkAt w d m1 m2 V D.ticked ∧ Keeps w w [d, m2] from ⟨by rw [ht]; exact hd, Keeps.refl _ _⟩)
    have HB := Lib.hid (And.intro hd hdo)
    rw [hk0] at f0
    clear hd hdo h2 hk0 ht hr hc
    go_enter Try.func29, Try.ntmps29
    go_wp2_with fail
    refine (HB.out.2 _ HT.out.1 HT.out.2).mono ?_
    rintro e w5 ⟨rfl, m1', V', h5, h6, h7⟩
    have H5 := Lib.hid (And.intro h5 (And.intro h6 (HT.out.2.trans h7 (T := [d, m2]) (S := [d, m2]) (fun _ h _ => h) |> fun h => h)))
    have hr := h5.row
    have g6 := hr.cell 7
    have y6 := hr.frozen 7
    simp only [dkRow, List.getElem?_toArray, List.getElem?_cons_zero, List.getElem?_cons_succ] at g6
    clear h5 h6 h7 hr
    go_wp2_with fail
    go_ret
    refine ⟨rfl, m1', V', H5.out.1.row_only (Keeps.setCell _ _ _) (H5.out.1.row.store 7 _) ⟨rfl, rfl, rfl⟩ H5.out.1.ok.counted, H5.out.2.1, H5.out.2.2.trans (Keeps.setCell _ _ _) (by simp)⟩
  · have hl0 : D.left ≠ 0 := h2.resolve_left hk0
    have hlf := hd.ok.lf
    have ht : D.ticked = { D with left := D.left - 1 } := by unfold Dk.ticked; rw [if_neg hk0]
    have hwr : IntKind.i64.wrap (D.left - 1) = D.left - 1 := IntWalk.i64_in _ (by omega)
    have HT := Lib.hid (show DkAt (w.setCell ⟨d, 1, none⟩ (.int .i64 (D.left - 1))) d m1 m2 V D.ticked ∧ Keeps w (w.setCell ⟨d, 1, none⟩ (.int .i64 (D.left - 1))) [d, m2] from ⟨by
      have := hd.ok.ticked hc
      rw [ht] at this ⊢
      exact hd.row_only (Keeps.setCell _ _ _) (hd.row.store 1 _) ⟨rfl, rfl, rfl⟩ this, (Keeps.setCell _ _ _).weaken (by simp)⟩)
    have HB := Lib.hid (And.intro hd hdo)
    clear hd hdo h2 ht hr hc hlf
    go_enter Try.func29, Try.ntmps29
    go_wp2_with fail
    refine (HB.out.2 _ HT.out.1 HT.out.2).mono ?_
    rintro e w5 ⟨rfl, m1', V', h5, h6, h7⟩
    have H5 := Lib.hid (And.intro h5 (And.intro h6 (HT.out.2.trans h7 (T := [d, m2]) (S := [d, m2]) (fun _ h _ => h) |> fun h => h)))
    have hr := h5.row
    have g6 := hr.cell 7
    have y6 := hr.frozen 7
    simp only [dkRow, List.getElem?_toArray, List.getElem?_cons_zero, List.getElem?_cons_succ] at g6
    clear h5 h6 h7 hr
    go_wp2_with fail
    go_ret
    refine ⟨rfl, m1', V', H5.out.1.row_only (Keeps.setCell _ _ _) (H5.out.1.row.store 7 _) ⟨rfl, rfl, rfl⟩ H5.out.1.ok.counted, H5.out.2.1, H5.out.2.2.trans (Keeps.setCell _ _ _) (by simp)⟩
end Go.Proofs.Ytehlabdbbbbopaa

namespace Go.Proofs.Ytehlabdbbbbopaa
open Go.RowKit Go.Maps

def Dk.fresh (n : Nat) : Dk := ⟨n, 0, 0, fun _ => none, fun _ => none, [], false, 0⟩
theorem DkOk.fresh {n : Nat} (h : 2 ≤ n ∧ n ≤ 4096) : DkOk (Dk.fresh n) where
  p2 := h.1
  p4 := h.2
  l := fun x b hb => by cases hb
  n := fun x b hb => by cases hb
  w := fun p hp => by cases hp
  k := ⟨Int.le_refl _, by show (0 : Int) ≤ 2; omega⟩
  s := ⟨by show (-9223372036854775808 : Int) ≤ 0; omega, by show (0 : Int) ≤ 9223372036854775807; omega⟩
  lf := ⟨by show (-9223372036854775808 : Int) ≤ 0; omega, by show (0 : Int) ≤ 9223372036854775807; omega, .inl rfl⟩
/-- What New hands back. -/
def DkMade (w : World) (pages : Int) (e : Ending) (w' : World) : Prop :=
  if 2 ≤ pages ∧ pages ≤ 4096 then ∃ d m1 m2, e = .returned (.tuple #[.pointer (some ⟨d, 0, none⟩), .int .i64 0]) ∧ DkAt w' d m1 m2 (.slice none 0 0) (Dk.fresh pages.toNat) ∧ w.heap.size ≤ d ∧ w.heap.size ≤ m1 ∧ w.heap.size ≤ m2 ∧ Keeps w w' []
  else e = .returned (.tuple #[.pointer none, .int .i64 2]) ∧ Keeps w w' []
set_option maxRecDepth 100000 in
set_option maxHeartbeats 1000000 in
theorem dkNew_any (w : World) (pages : Int) : Calls Try.prog 10 #[.int .i64 pages] w (DkMade w pages) := by
  by_cases h1 : pages < 2
  · have HN := Lib.hid (show ¬ (2 ≤ pages ∧ pages ≤ 4096) by omega)
    go_enter Try.func10, Try.ntmps10
    go_wp2_with fail
    go_ret2
    unfold DkMade
    rw [if_neg HN.out]
    exact ⟨rfl, Keeps.refl _ _⟩
  · by_cases h2 : pages > 4096
    · have HN := Lib.hid (show ¬ (2 ≤ pages ∧ pages ≤ 4096) by omega)
      go_enter Try.func10, Try.ntmps10
      go_wp2_with fail
      go_ret2
      unfold DkMade
      rw [if_neg HN.out]
      exact ⟨rfl, Keeps.refl _ _⟩
    · obtain ⟨n, rfl⟩ : ∃ n : Nat, pages = n := ⟨pages.toNat, by omega⟩
      have HN := Lib.hid (show 2 ≤ n ∧ n ≤ 4096 by omega)
      have hmm := @run_makeMap Try.prog
      go_enter Try.func10, Try.ntmps10
      go_wp2_with fail
      go_ret2
      unfold DkMade
      rw [if_pos (by have := HN.out; omega), Int.toNat_natCast]
      have s1 : (w.alloc (.map #[] 0)).heap.size = w.heap.size + 1 := by simp
      have s2 : ((w.alloc (.map #[] 0)).alloc (.map #[] 0)).heap.size = w.heap.size + 2 := by simp
      have i1 : ∀ f, f = (fun _ => none) → DMap (w.alloc (.map #[] 0)) w.heap.size f := fun f hf => by subst hf; exact IMap.made w Try.prog 3
      have i2 : ∀ f, f = (fun _ => none) → DMap ((w.alloc (.map #[] 0)).alloc (.map #[] 0)) (w.heap.size + 1) f := fun f hf => by subst hf; have := IMap.made (w.alloc (.map #[] 0)) Try.prog 3; rwa [s1] at this
      have hr := Row.new ((w.alloc (.map #[] 0)).alloc (.map #[] 0)) 67 (dkRow (Dk.fresh n) w.heap.size (w.heap.size + 1) (.slice none 0 0))
      rw [s2] at hr
      refine ⟨w.heap.size + 2, w.heap.size, w.heap.size + 1, rfl, ⟨hr, ?_, ?_, WaitsAt.nil _ _, by omega, DkOk.fresh HN.out⟩, by omega, Nat.le_refl _, by omega, ((Keeps.alloc _ _).then_alloc _).then_alloc _⟩
      · exact ((i1 _ rfl).keep (Keeps.alloc _ _) (by simp)).keep (Keeps.alloc _ _) (by simp)
      · exact (i2 _ rfl).keep (Keeps.alloc _ _) (by simp)
/-- What a write makes of a disk. -/
def Dk.write (D : Dk) (page : Int) (b : List UInt8) : Nat × Dk :=
  if b.length ≠ 256 then (2, D) else if page < 0 ∨ (D.pages : Int) ≤ page then (4, D) else if D.code ≠ 0 then (D.code, D.refused) else (0, (D.ticked.wrote page b).counted)
def Dk.flush (D : Dk) : Nat × Dk := if D.code ≠ 0 then (D.code, D.refused) else (0, D.ticked.flushed.counted)
theorem Dk.ticked_same (D : Dk) : D.ticked.pages = D.pages ∧ D.ticked.now = D.now ∧ D.ticked.waits = D.waits := by
  unfold Dk.ticked
  split <;> exact ⟨rfl, rfl, rfl⟩
/-- What a step leaves. -/
def DkPost (w : World) (d m1 m2 : Nat) (r : Nat × Dk) (e : Ending) (w' : World) : Prop :=
  e = .returned (.int .i64 (r.1 : Nat)) ∧ ∃ m1' V', DkAt w' d m1' m2 V' r.2 ∧ (m1' = m1 ∨ w.heap.size ≤ m1') ∧ Keeps w w' [d, m2]
set_option maxRecDepth 100000 in
set_option maxHeartbeats 1000000 in
theorem dkFlush_any (w : World) (d m1 m2 : Nat) (V : Value) (D : Dk) (hd : DkAt w d m1 m2 V D) :
    Calls Try.prog 12 #[.pointer (some ⟨d, 0, none⟩)] w (DkPost w d m1 m2 D.flush) := by
  have HB := Lib.hid hd
  clear hd
  go_enter Try.func12, Try.ntmps12
  go_wp2_with fail
  obtain ⟨W1, hW1⟩ : ∃ W', w.alloc (.cells #[.pointer (some ⟨d, 0, none⟩)] 24) = W' := ⟨_, rfl⟩
  have k1 : Keeps w W1 [] := by rw [← hW1]; exact Keeps.alloc _ _
  have r1 : Row W1 w.heap.size 24 #[.pointer (some ⟨d, 0, none⟩)] := by rw [← hW1]; exact Row.new _ _ _
  rw [hW1]
  have HW := Lib.hid (And.intro k1 (And.intro r1 (HB.out.keeps k1)))
  have c0 := r1.cell 0
  simp only [List.getElem?_toArray, List.getElem?_cons_zero] at c0
  clear k1 r1 hW1
  refine (dkNone_any HW.out.2.2).mono ?_
  rintro e w' ⟨rfl, rfl⟩
  go_wp2_with fail
  by_cases hc : D.code = 0
  · refine (dkStep_flush W1 d m1 m2 w.heap.size V D D.ticked.flushed HW.out.2.2 hc (fun w1 h hk => ?_)).mono ?_
    · refine (flushFn_any w1 w.heap.size d m1 m2 V D.ticked h (HW.out.2.1.keep hk (by
        have h1 := HB.out.row.lt
        have h2 := IMap.lt HB.out.n
        simp; omega))).mono ?_
      rintro e w2 ⟨rfl, m1', h1, h2, h3⟩
      exact ⟨rfl, m1', _, h1, .inr (Nat.le_trans hk.size h2), h3.weaken (by simp)⟩
    · rintro e w2 ⟨rfl, m1', V', h1, h2, h3⟩
      have HE := Lib.hid (And.intro h1 (And.intro h2 h3))
      clear h1 h2 h3
      go_wp2_with fail
      go_ret
      have e1 : D.flush = (0, D.ticked.flushed.counted) := by unfold Dk.flush; rw [if_neg (by simp [hc])]
      unfold DkPost
      rw [e1]
      have := HW.out.1.size
      exact ⟨rfl, m1', V', HE.out.1, HE.out.2.1.imp id (fun h => by omega), (HW.out.1.weaken (by simp)).trans HE.out.2.2 (fun _ h _ => h)⟩
  · refine (dkStep_no W1 d m1 m2 V D HW.out.2.2 hc _).mono ?_
    rintro e w2 ⟨rfl, h1, h3⟩
    have HE := Lib.hid (And.intro h1 h3)
    clear h1 h3
    go_wp2_with fail
    go_ret
    have e1 : D.flush = (D.code, D.refused) := by unfold Dk.flush; rw [if_pos hc]
    unfold DkPost
    rw [e1]
    exact ⟨rfl, m1, V, HE.out.1, .inl rfl, (HW.out.1.weaken (by simp)).trans (HE.out.2.weaken (T := [d, m2]) (by simp)) (fun _ h _ => h)⟩
end Go.Proofs.Ytehlabdbbbbopaa

namespace Go.Proofs.Ytehlabdbbbbopaa
open Go.RowKit Go.Maps

theorem Lies.range {w : World} {B : Nat} {A : Option Addr} {xs : List Value} (h : Lies w B A xs) (hp : 0 < xs.length) : ∃ g o, A = some ⟨g, o, none⟩ ∧ g < B ∧ w.rangeAt g o xs := by
  obtain ⟨b, o, e, hb, hc⟩ := h hp
  exact ⟨b, o, e, hb, fun j v hv => hc j v hv⟩
theorem rangeAt_keep {w w' : World} {g o : Nat} {xs : List Value} {S : List Nat} (h : w.rangeAt g o xs) (hg : g < w.heap.size) (hk : Keeps w w' S) (hS : g ∉ S) : w'.rangeAt g o xs := fun j v hv => (hk.cell (p := ⟨g, o + j, none⟩) hg hS).trans (h j v hv)
theorem range_ne_row {w : World} {g o b : Nat} {xs : List Value} {t : TypeId} {cs : Array Value} (h : w.rangeAt g o xs) (hr : Row w b t cs) (hl : cs.size < xs.length) : g ≠ b := by
  rintro rfl
  have h1 := h cs.size _ (List.getElem?_eq_getElem hl)
  rw [hr.cell, Array.getElem?_eq_none (by omega)] at h1
  cases h1
theorem range_ne_map {P : Program} {k : TypeId} {w : World} {g o b : Nat} {xs : List Value} {f : Int → Option Value} (h : w.rangeAt g o xs) (hm : IMap w P k b f) (hl : 0 < xs.length) : g ≠ b := by
  rintro rfl
  obtain ⟨D, ⟨es, clock, hb, _⟩, _⟩ := hm
  have h1 := h 0 _ (List.getElem?_eq_getElem hl)
  simp [World.cell?, hb] at h1
set_option maxRecDepth 100000 in
set_option maxHeartbeats 1000000 in
theorem dkWrite_any (w : World) (d m1 m2 : Nat) (V : Value) (D : Dk) (hd : DkAt w d m1 m2 V D) (page : Int) (A : Option Addr) (n c : Nat) (bs : List UInt8) (hn : bs.length = n) (hA : Lies w w.heap.size A (bs.map byteV)) (hl : D.waits.length ≤ 1000000) :
    Calls Try.prog 13 #[.pointer (some ⟨d, 0, none⟩), .int .i64 page, .slice A n c] w (DkPost w d m1 m2 (D.write page bs)) := by
  have HB := Lib.hid hd
  have HA := Lib.hid (And.intro hA (And.intro hl hn))
  clear hd hA hl
  by_cases h256 : (n : Int) = 256
  · obtain rfl : n = 256 := by omega
    clear h256
    by_cases hp0 : page < 0
    · have HR := Lib.hid (show D.write page bs = (4, D) by unfold Dk.write; rw [if_neg (by omega), if_pos (.inl hp0)])
      clear hn
      go_enter Try.func13, Try.ntmps13
      go_wp2_with fail
      obtain ⟨W1, hW1⟩ : ∃ W', ((w.alloc (.cells #[.pointer (some ⟨d, 0, none⟩)] 24)).alloc (.cells #[.int .i64 page] 3)).alloc (.cells #[.slice A 256 c] 32) = W' := ⟨_, rfl⟩
      have k1 : Keeps w W1 [] := by rw [← hW1]; exact ((Keeps.alloc _ _).then_alloc _).then_alloc _
      have r1 : Row W1 w.heap.size 24 #[.pointer (some ⟨d, 0, none⟩)] := by rw [← hW1]; exact ((Row.new _ _ _).alloc _).alloc _
      have r2 : Row W1 (w.heap.size + 1) 3 #[.int .i64 page] := by
        rw [← hW1]
        have := (Row.new (w.alloc (.cells #[.pointer (some ⟨d, 0, none⟩)] 24)) 3 #[.int .i64 page]).alloc (.cells #[.slice A 256 c] 32)
        rwa [World.size_alloc] at this
      have r3 : Row W1 (w.heap.size + 1 + 1) 32 #[.slice A 256 c] := by
        rw [← hW1]
        have := Row.new ((w.alloc (.cells #[.pointer (some ⟨d, 0, none⟩)] 24)).alloc (.cells #[.int .i64 page] 3)) 32 #[.slice A 256 c]
        rwa [World.size_alloc, World.size_alloc] at this
      rw [hW1]
      have HW := Lib.hid (And.intro k1 (And.intro r1 (And.intro r2 (And.intro r3 (HB.out.keeps k1)))))
      have c0 := r1.cell 0
      have c1 := r2.cell 0
      have c2 := r3.cell 0
      simp only [List.getElem?_toArray, List.getElem?_cons_zero] at c0 c1 c2
      clear k1 r1 r2 r3 hW1
      refine (dkNone_any HW.out.2.2.2.2).mono ?_
      rintro e w' ⟨rfl, rfl⟩
      go_wp2_with fail
      have M0 := fun (W' : World) (hW : Keeps W1 W' []) => (HW.out.2.1.keeps hW).cell 0
      have M1 := fun (W' : World) (hW : Keeps W1 W' []) => (HW.out.2.2.1.keeps hW).cell 0
      have MD := fun (W' : World) (hW : Keeps W1 W' []) => (HW.out.2.2.2.2.row.keeps hW).cell 2
      simp only [dkRow, List.getElem?_toArray, List.getElem?_cons_zero, List.getElem?_cons_succ] at M0 M1 MD
      refine wp_region_keeps _ (by kernel_rfl) rfl (by kernel_rfl) ?_
      apply loose_is
      · intro W vals hW hkn
        clear hkn
        refine ⟨?_⟩
        simp only [fill]
        go_simp
        first | exact ⟨Keeps.refl _ _, rfl⟩ | exact ⟨Keeps.alloc _ _, rfl⟩
      simp only [addEnt]
      apply loose_is
      · intro W vals hW hkn
        clear hkn
        refine ⟨?_⟩
        simp only [fill]
        go_simp
        first | exact ⟨Keeps.refl _ _, rfl⟩ | exact ⟨Keeps.alloc _ _, rfl⟩
      simp only [addEnt]
      apply loose_is
      · intro W vals hW hkn
        clear hkn
        refine ⟨?_⟩
        simp only [fill]
        go_simp
        first | exact ⟨Keeps.refl _ _, rfl⟩ | exact ⟨Keeps.alloc _ _, rfl⟩
      simp only [addEnt]
      refine loose_off (fun vals => by kernel_rfl) ?_
      simp only [addEnt]
      refine loose_off (fun vals => by kernel_rfl) ?_
      simp only [addEnt]
      refine loose_off (fun vals => by kernel_rfl) ?_
      simp only [addEnt]
      refine loose_off (fun vals => by kernel_rfl) ?_
      simp only [addEnt]
      refine loose_off (fun vals => by kernel_rfl) ?_
      simp only [addEnt]
      refine loose_off (fun vals => by kernel_rfl) ?_
      simp only [addEnt]
      apply loose_is
      · intro W vals hW hkn
        clear hkn
        refine ⟨?_⟩
        simp only [fill]
        go_simp
        first | exact ⟨Keeps.refl _ _, rfl⟩ | exact ⟨Keeps.alloc _ _, rfl⟩
      simp only [addEnt]
      apply loose_is
      · intro W vals hW hkn
        clear hkn
        refine ⟨?_⟩
        simp only [fill]
        go_simp
        first | exact ⟨Keeps.refl _ _, rfl⟩ | exact ⟨Keeps.alloc _ _, rfl⟩
      simp only [addEnt]
      refine loose_nil (fun W vals hW hkn => ?_)
      simp only [knowsAll] at hkn
      try simp only [and_true] at hkn
      simp only [fill, Act.put, List.setIfInBounds_toArray, List.set_cons_succ, List.set_cons_zero]
      have HK := Lib.hid hW
      clear hkn M0 M1 MD hW
      go_wp2_with fail
      go_ret
      unfold DkPost
      rw [HR.out]
      exact ⟨rfl, m1, V, HW.out.2.2.2.2.keeps HK.out, .inl rfl, (HW.out.1.then_ HK.out).weaken (by simp)⟩
    · by_cases hp1 : (D.pages : Int) ≤ page
      · have HR := Lib.hid (show D.write page bs = (4, D) by unfold Dk.write; rw [if_neg (by omega), if_pos (.inr hp1)])
        clear hn
        go_enter Try.func13, Try.ntmps13
        go_wp2_with fail
        obtain ⟨W1, hW1⟩ : ∃ W', ((w.alloc (.cells #[.pointer (some ⟨d, 0, none⟩)] 24)).alloc (.cells #[.int .i64 page] 3)).alloc (.cells #[.slice A 256 c] 32) = W' := ⟨_, rfl⟩
        have k1 : Keeps w W1 [] := by rw [← hW1]; exact ((Keeps.alloc _ _).then_alloc _).then_alloc _
        have r1 : Row W1 w.heap.size 24 #[.pointer (some ⟨d, 0, none⟩)] := by rw [← hW1]; exact ((Row.new _ _ _).alloc _).alloc _
        have r2 : Row W1 (w.heap.size + 1) 3 #[.int .i64 page] := by
          rw [← hW1]
          have := (Row.new (w.alloc (.cells #[.pointer (some ⟨d, 0, none⟩)] 24)) 3 #[.int .i64 page]).alloc (.cells #[.slice A 256 c] 32)
          rwa [World.size_alloc] at this
        have r3 : Row W1 (w.heap.size + 1 + 1) 32 #[.slice A 256 c] := by
          rw [← hW1]
          have := Row.new ((w.alloc (.cells #[.pointer (some ⟨d, 0, none⟩)] 24)).alloc (.cells #[.int .i64 page] 3)) 32 #[.slice A 256 c]
          rwa [World.size_alloc, World.size_alloc] at this
        rw [hW1]
        have HW := Lib.hid (And.intro k1 (And.intro r1 (And.intro r2 (And.intro r3 (HB.out.keeps k1)))))
        have c0 := r1.cell 0
        have c1 := r2.cell 0
        have c2 := r3.cell 0
        simp only [List.getElem?_toArray, List.getElem?_cons_zero] at c0 c1 c2
        clear k1 r1 r2 r3 hW1
        refine (dkNone_any HW.out.2.2.2.2).mono ?_
        rintro e w' ⟨rfl, rfl⟩
        go_wp2_with fail
        have M0 := fun (W' : World) (hW : Keeps W1 W' []) => (HW.out.2.1.keeps hW).cell 0
        have M1 := fun (W' : World) (hW : Keeps W1 W' []) => (HW.out.2.2.1.keeps hW).cell 0
        have MD := fun (W' : World) (hW : Keeps W1 W' []) => (HW.out.2.2.2.2.row.keeps hW).cell 2
        simp only [dkRow, List.getElem?_toArray, List.getElem?_cons_zero, List.getElem?_cons_succ] at M0 M1 MD
        refine wp_region_keeps _ (by kernel_rfl) rfl (by kernel_rfl) ?_
        apply loose_is
        · intro W vals hW hkn
          clear hkn
          refine ⟨?_⟩
          simp only [fill]
          go_simp
          first | exact ⟨Keeps.refl _ _, rfl⟩ | exact ⟨Keeps.alloc _ _, rfl⟩
        simp only [addEnt]
        apply loose_is
        · intro W vals hW hkn
          clear hkn
          refine ⟨?_⟩
          simp only [fill]
          go_simp
          first | exact ⟨Keeps.refl _ _, rfl⟩ | exact ⟨Keeps.alloc _ _, rfl⟩
        simp only [addEnt]
        apply loose_is
        · intro W vals hW hkn
          clear hkn
          refine ⟨?_⟩
          simp only [fill]
          go_simp
          first | exact ⟨Keeps.refl _ _, rfl⟩ | exact ⟨Keeps.alloc _ _, rfl⟩
        simp only [addEnt]
        apply loose_is
        · intro W vals hW hkn
          clear hkn
          refine ⟨?_⟩
          simp only [fill]
          go_simp
          first | exact ⟨Keeps.refl _ _, rfl⟩ | exact ⟨Keeps.alloc _ _, rfl⟩
        simp only [addEnt]
        apply loose_is
        · intro W vals hW hkn
          clear hkn
          refine ⟨?_⟩
          simp only [fill]
          go_simp
          first | exact ⟨Keeps.refl _ _, rfl⟩ | exact ⟨Keeps.alloc _ _, rfl⟩
        simp only [addEnt]
        apply loose_is
        · intro W vals hW hkn
          clear hkn
          refine ⟨?_⟩
          simp only [fill]
          go_simp
          first | exact ⟨Keeps.refl _ _, rfl⟩ | exact ⟨Keeps.alloc _ _, rfl⟩
        simp only [addEnt]
        apply loose_is
        · intro W vals hW hkn
          clear hkn
          refine ⟨?_⟩
          simp only [fill]
          go_simp
          first | exact ⟨Keeps.refl _ _, rfl⟩ | exact ⟨Keeps.alloc _ _, rfl⟩
        simp only [addEnt]
        apply loose_is
        · intro W vals hW hkn
          clear hkn
          refine ⟨?_⟩
          simp only [fill]
          go_simp
          first | exact ⟨Keeps.refl _ _, rfl⟩ | exact ⟨Keeps.alloc _ _, rfl⟩
        simp only [addEnt]
        apply loose_is
        · intro W vals hW hkn
          clear hkn
          refine ⟨?_⟩
          simp only [fill]
          go_simp
          first | exact ⟨Keeps.refl _ _, rfl⟩ | exact ⟨Keeps.alloc _ _, rfl⟩
        simp only [addEnt]
        apply loose_is
        · intro W vals hW hkn
          clear hkn
          refine ⟨?_⟩
          simp only [fill]
          go_simp
          first | exact ⟨Keeps.refl _ _, rfl⟩ | exact ⟨Keeps.alloc _ _, rfl⟩
        simp only [addEnt]
        apply loose_is
        · intro W vals hW hkn
          clear hkn
          refine ⟨?_⟩
          simp only [fill]
          go_simp
          first | exact ⟨Keeps.refl _ _, rfl⟩ | exact ⟨Keeps.alloc _ _, rfl⟩
        simp only [addEnt]
        refine loose_nil (fun W vals hW hkn => ?_)
        simp only [knowsAll] at hkn
        try simp only [and_true] at hkn
        simp only [fill, Act.put, List.setIfInBounds_toArray, List.set_cons_succ, List.set_cons_zero]
        have HK := Lib.hid hW
        clear hkn M0 M1 MD hW
        go_wp2_with fail
        go_ret
        unfold DkPost
        rw [HR.out]
        exact ⟨rfl, m1, V, HW.out.2.2.2.2.keeps HK.out, .inl rfl, (HW.out.1.then_ HK.out).weaken (by simp)⟩
      · have HR := Lib.hid (show D.write page bs = if D.code ≠ 0 then (D.code, D.refused) else (0, (D.ticked.wrote page bs).counted) by unfold Dk.write; rw [if_neg (by omega), if_neg (by omega)])
        have HP := Lib.hid (show 0 ≤ page ∧ page < D.pages by omega)
        clear hn
        go_enter Try.func13, Try.ntmps13
        go_wp2_with fail
        obtain ⟨W1, hW1⟩ : ∃ W', ((w.alloc (.cells #[.pointer (some ⟨d, 0, none⟩)] 24)).alloc (.cells #[.int .i64 page] 3)).alloc (.cells #[.slice A 256 c] 32) = W' := ⟨_, rfl⟩
        have k1 : Keeps w W1 [] := by rw [← hW1]; exact ((Keeps.alloc _ _).then_alloc _).then_alloc _
        have r1 : Row W1 w.heap.size 24 #[.pointer (some ⟨d, 0, none⟩)] := by rw [← hW1]; exact ((Row.new _ _ _).alloc _).alloc _
        have r2 : Row W1 (w.heap.size + 1) 3 #[.int .i64 page] := by
          rw [← hW1]
          have := (Row.new (w.alloc (.cells #[.pointer (some ⟨d, 0, none⟩)] 24)) 3 #[.int .i64 page]).alloc (.cells #[.slice A 256 c] 32)
          rwa [World.size_alloc] at this
        have r3 : Row W1 (w.heap.size + 1 + 1) 32 #[.slice A 256 c] := by
          rw [← hW1]
          have := Row.new ((w.alloc (.cells #[.pointer (some ⟨d, 0, none⟩)] 24)).alloc (.cells #[.int .i64 page] 3)) 32 #[.slice A 256 c]
          rwa [World.size_alloc, World.size_alloc] at this
        rw [hW1]
        have HW := Lib.hid (And.intro k1 (And.intro r1 (And.intro r2 (And.intro r3 (HB.out.keeps k1)))))
        have c0 := r1.cell 0
        have c1 := r2.cell 0
        have c2 := r3.cell 0
        simp only [List.getElem?_toArray, List.getElem?_cons_zero] at c0 c1 c2
        clear k1 r1 r2 r3 hW1
        refine (dkNone_any HW.out.2.2.2.2).mono ?_
        rintro e w' ⟨rfl, rfl⟩
        go_wp2_with fail
        have M0 := fun (W' : World) (hW : Keeps W1 W' []) => (HW.out.2.1.keeps hW).cell 0
        have M1 := fun (W' : World) (hW : Keeps W1 W' []) => (HW.out.2.2.1.keeps hW).cell 0
        have MD := fun (W' : World) (hW : Keeps W1 W' []) => (HW.out.2.2.2.2.row.keeps hW).cell 2
        simp only [dkRow, List.getElem?_toArray, List.getElem?_cons_zero, List.getElem?_cons_succ] at M0 M1 MD
        refine wp_region_keeps _ (by kernel_rfl) rfl (by kernel_rfl) ?_
        apply loose_is
        · intro W vals hW hkn
          clear hkn
          refine ⟨?_⟩
          simp only [fill]
          go_simp
          first | exact ⟨Keeps.refl _ _, rfl⟩ | exact ⟨Keeps.alloc _ _, rfl⟩
        simp only [addEnt]
        apply loose_is
        · intro W vals hW hkn
          clear hkn
          refine ⟨?_⟩
          simp only [fill]
          go_simp
          first | exact ⟨Keeps.refl _ _, rfl⟩ | exact ⟨Keeps.alloc _ _, rfl⟩
        simp only [addEnt]
        apply loose_is
        · intro W vals hW hkn
          clear hkn
          refine ⟨?_⟩
          simp only [fill]
          go_simp
          first | exact ⟨Keeps.refl _ _, rfl⟩ | exact ⟨Keeps.alloc _ _, rfl⟩
        simp only [addEnt]
        apply loose_is
        · intro W vals hW hkn
          clear hkn
          refine ⟨?_⟩
          simp only [fill]
          go_simp
          first | exact ⟨Keeps.refl _ _, rfl⟩ | exact ⟨Keeps.alloc _ _, rfl⟩
        simp only [addEnt]
        apply loose_is
        · intro W vals hW hkn
          clear hkn
          refine ⟨?_⟩
          simp only [fill]
          go_simp
          first | exact ⟨Keeps.refl _ _, rfl⟩ | exact ⟨Keeps.alloc _ _, rfl⟩
        simp only [addEnt]
        apply loose_is
        · intro W vals hW hkn
          clear hkn
          refine ⟨?_⟩
          simp only [fill]
          go_simp
          first | exact ⟨Keeps.refl _ _, rfl⟩ | exact ⟨Keeps.alloc _ _, rfl⟩
        simp only [addEnt]
        apply loose_is
        · intro W vals hW hkn
          clear hkn
          refine ⟨?_⟩
          simp only [fill]
          go_simp
          first | exact ⟨Keeps.refl _ _, rfl⟩ | exact ⟨Keeps.alloc _ _, rfl⟩
        simp only [addEnt]
        apply loose_is
        · intro W vals hW hkn
          clear hkn
          refine ⟨?_⟩
          simp only [fill]
          go_simp
          first | exact ⟨Keeps.refl _ _, rfl⟩ | exact ⟨Keeps.alloc _ _, rfl⟩
        simp only [addEnt]
        apply loose_is
        · intro W vals hW hkn
          clear hkn
          refine ⟨?_⟩
          simp only [fill]
          go_simp
          first | exact ⟨Keeps.refl _ _, rfl⟩ | exact ⟨Keeps.alloc _ _, rfl⟩
        simp only [addEnt]
        apply loose_is
        · intro W vals hW hkn
          clear hkn
          refine ⟨?_⟩
          simp only [fill]
          go_simp
          first | exact ⟨Keeps.refl _ _, rfl⟩ | exact ⟨Keeps.alloc _ _, rfl⟩
        simp only [addEnt]
        apply loose_is
        · intro W vals hW hkn
          clear hkn
          refine ⟨?_⟩
          simp only [fill]
          go_simp
          first | exact ⟨Keeps.refl _ _, rfl⟩ | exact ⟨Keeps.alloc _ _, rfl⟩
        simp only [addEnt]
        refine loose_nil (fun W vals hW hkn => ?_)
        simp only [knowsAll] at hkn
        try simp only [and_true] at hkn
        simp only [fill, Act.put, List.setIfInBounds_toArray, List.set_cons_succ, List.set_cons_zero]
        have g0 := M0 _ hW
        have HK := Lib.hid (And.intro hW (And.intro (HW.out.2.1.keeps hW) (And.intro (HW.out.2.2.1.keeps hW) (And.intro (HW.out.2.2.2.1.keeps hW) (HW.out.2.2.2.2.keeps hW)))))
        clear hkn M0 M1 MD hW
        go_wp2_with fail
        have HKW := Lib.hid (HW.out.1.then_ HK.out.1)
        by_cases hc : D.code = 0
        · obtain ⟨g, o, rfl, hg, hra⟩ := Lies.range HA.out.1 (by simp [HA.out.2.2])
          have HRA := Lib.hid (And.intro hg hra)
          clear hg hra
          refine (dkStep_write _ d m1 m2 (w.heap.size + 1 + 1) w.heap.size (w.heap.size + 1) V D (D.ticked.wrote page bs) HK.out.2.2.2.2 hc (fun w1 h hk => ?_)).mono ?_
          · have hl1 := HB.out.row.lt
            have hl2 := IMap.lt HB.out.n
            have hd1 := Row.ne_type HK.out.2.1 HK.out.2.2.2.2.row (by decide)
            have e := Dk.ticked_same D
            refine (writeFn_any w1 (w.heap.size + 1 + 1) w.heap.size (w.heap.size + 1) d m1 m2 V D.ticked page g o c bs HA.out.2.2 (by rw [e.1]; exact HP.out) h (HK.out.2.2.2.1.keep hk (by simp; omega)) (HK.out.2.1.keep hk (by simp; omega)) (HK.out.2.2.1.keep hk (by simp; omega)) ?_ (by rw [e.2.2]; exact HA.out.2.1)).mono ?_
            · have hb1 := rangeAt_keep HRA.out.2 HRA.out.1 HKW.out (by simp)
              have e1 := range_ne_row HRA.out.2 HB.out.row (by rw [List.length_map, HA.out.2.2]; show 8 < 256; omega)
              have e2 := range_ne_map HRA.out.2 HB.out.n (by rw [List.length_map, HA.out.2.2]; omega)
              exact rangeAt_keep hb1 (Nat.lt_of_lt_of_le HRA.out.1 HKW.out.size) hk (by simp; omega)
            · rintro e w2 ⟨rfl, V', h1, h3⟩
              exact ⟨rfl, m1, V', h1, .inl rfl, h3⟩
          · rintro e w2 ⟨rfl, m1', V', h1, h2, h3⟩
            have HE := Lib.hid (And.intro h1 (And.intro h2 h3))
            clear h1 h2 h3
            go_wp2_with fail
            go_ret
            unfold DkPost
            rw [HR.out, if_neg (by simp [hc])]
            have := HKW.out.size
            exact ⟨rfl, m1', V', HE.out.1, HE.out.2.1.imp id (fun h => by omega), (HKW.out.weaken (by simp)).trans HE.out.2.2 (fun _ h _ => h)⟩
        · refine (dkStep_no _ d m1 m2 V D HK.out.2.2.2.2 hc _).mono ?_
          rintro e w2 ⟨rfl, h1, h3⟩
          have HE := Lib.hid (And.intro h1 h3)
          clear h1 h3
          go_wp2_with fail
          go_ret
          unfold DkPost
          rw [HR.out, if_pos hc]
          exact ⟨rfl, m1, V, HE.out.1, .inl rfl, (HKW.out.weaken (by simp)).trans (HE.out.2.weaken (T := [d, m2]) (by simp)) (fun _ h _ => h)⟩
  · have HR := Lib.hid (show D.write page bs = (2, D) by unfold Dk.write; rw [if_pos (by omega)])
    clear hn
    go_enter Try.func13, Try.ntmps13
    go_wp2_with fail
    obtain ⟨W1, hW1⟩ : ∃ W', ((w.alloc (.cells #[.pointer (some ⟨d, 0, none⟩)] 24)).alloc (.cells #[.int .i64 page] 3)).alloc (.cells #[.slice A n c] 32) = W' := ⟨_, rfl⟩
    have k1 : Keeps w W1 [] := by rw [← hW1]; exact ((Keeps.alloc _ _).then_alloc _).then_alloc _
    have r1 : Row W1 w.heap.size 24 #[.pointer (some ⟨d, 0, none⟩)] := by rw [← hW1]; exact ((Row.new _ _ _).alloc _).alloc _
    have r2 : Row W1 (w.heap.size + 1) 3 #[.int .i64 page] := by
      rw [← hW1]
      have := (Row.new (w.alloc (.cells #[.pointer (some ⟨d, 0, none⟩)] 24)) 3 #[.int .i64 page]).alloc (.cells #[.slice A n c] 32)
      rwa [World.size_alloc] at this
    have r3 : Row W1 (w.heap.size + 1 + 1) 32 #[.slice A n c] := by
      rw [← hW1]
      have := Row.new ((w.alloc (.cells #[.pointer (some ⟨d, 0, none⟩)] 24)).alloc (.cells #[.int .i64 page] 3)) 32 #[.slice A n c]
      rwa [World.size_alloc, World.size_alloc] at this
    rw [hW1]
    have HW := Lib.hid (And.intro k1 (And.intro r1 (And.intro r2 (And.intro r3 (HB.out.keeps k1)))))
    have c0 := r1.cell 0
    have c1 := r2.cell 0
    have c2 := r3.cell 0
    simp only [List.getElem?_toArray, List.getElem?_cons_zero] at c0 c1 c2
    clear k1 r1 r2 r3 hW1
    refine (dkNone_any HW.out.2.2.2.2).mono ?_
    rintro e w' ⟨rfl, rfl⟩
    go_wp2_with fail
    go_ret
    unfold DkPost
    rw [HR.out]
    exact ⟨rfl, m1, V, HW.out.2.2.2.2, .inl rfl, HW.out.1.weaken (by simp)⟩
end Go.Proofs.Ytehlabdbbbbopaa

namespace Go.Proofs.Ytehlabdbbbbopaa
open Go.RowKit Go.Maps

def Dk.arm (D : Dk) (kind steps : Int) : Nat × Dk :=
  if kind < 0 ∨ 2 < kind ∨ (kind = 0 ∧ 0 ≤ steps) then (2, D) else if D.dead = true then (120, D) else (0, if steps < 0 then { D with kind := 0, left := 0 } else { D with kind := kind, left := steps })
theorem DkOk.arm {D : Dk} (h : DkOk D) {kind steps : Int} (hs : -9223372036854775808 ≤ steps ∧ steps ≤ 9223372036854775807) : DkOk (D.arm kind steps).2 := by
  unfold Dk.arm
  split
  · exact h
  · rename_i hk
    split
    · exact h
    · split
      · exact ⟨h.p2, h.p4, h.l, h.n, h.w, ⟨Int.le_refl _, by show (0 : Int) ≤ 2; omega⟩, h.s, by show (-9223372036854775808 : Int) ≤ 0; omega, by show (0 : Int) ≤ 9223372036854775807; omega, .inl rfl⟩
      · exact ⟨h.p2, h.p4, h.l, h.n, h.w, by show 0 ≤ kind ∧ kind ≤ 2; omega, h.s, hs.1, hs.2, .inr (by show 0 ≤ steps; omega)⟩
theorem Keeps.put {w w' : World} {d : Nat} (h : Keeps w w' [d]) (i : Nat) (v : Value) : Keeps w (w'.setCell ⟨d, i, none⟩ v) [d] := h.trans (Keeps.setCell _ _ _) (fun _ h _ => h)
theorem arm_off (D : Dk) (m1 m2 : Nat) (V a b : Value) : ((((dkRow D m1 m2 V).setIfInBounds 0 a).setIfInBounds 1 b).setIfInBounds 0 (.int .i64 0)).setIfInBounds 1 (.int .i64 0) = dkRow { D with kind := 0, left := 0 } m1 m2 V := by
  simp [dkRow]
/-- What stays of a disk's row. -/
def ArmPost (w : World) (d m1 m2 : Nat) (V : Value) (r : Nat × Dk) (e : Ending) (w' : World) : Prop := e = .returned (.int .i64 (r.1 : Nat)) ∧ DkAt w' d m1 m2 V r.2 ∧ Keeps w w' [d]
set_option maxRecDepth 100000 in
set_option maxHeartbeats 1000000 in
theorem dkArm_any (w : World) (d m1 m2 : Nat) (V : Value) (D : Dk) (hd : DkAt w d m1 m2 V D) (kind steps : Int) (hs : -9223372036854775808 ≤ steps ∧ steps ≤ 9223372036854775807) :
    Calls Try.prog 11 #[.pointer (some ⟨d, 0, none⟩), .int .i64 kind, .int .i64 steps] w (ArmPost w d m1 m2 V (D.arm kind steps)) := by
  have HB := Lib.hid hd
  have HO := Lib.hid (DkOk.arm hd.ok (kind := kind) hs)
  have hr := hd.row
  have f0 := hr.cell 0
  have f1 := hr.cell 1
  have f2 := hr.cell 2
  have f3 := hr.cell 3
  have f4 := hr.cell 4
  have f5 := hr.cell 5
  have f6 := hr.cell 6
  have f7 := hr.cell 7
  simp only [dkRow, List.getElem?_toArray, List.getElem?_cons_zero, List.getElem?_cons_succ] at f0 f1 f2 f3 f4 f5 f6 f7
  have z0 := hr.frozen 0
  have z1 := hr.frozen 1
  have z2 := hr.frozen 2
  have z3 := hr.frozen 3
  have z4 := hr.frozen 4
  have z5 := hr.frozen 5
  have z6 := hr.frozen 6
  have z7 := hr.frozen 7
  clear hd hr hs
  by_cases h1 : kind < 0
  · have HR := Lib.hid (show D.arm kind steps = (2, D) by unfold Dk.arm; rw [if_pos (.inl h1)])
    go_enter Try.func11, Try.ntmps11
    go_wp2_with fail
    refine (dkNone_any HB.out).mono ?_
    rintro e w' ⟨rfl, rfl⟩
    go_wp2_with fail
    go_ret
    unfold ArmPost
    rw [HR.out]
    exact ⟨rfl, HB.out, Keeps.refl _ _⟩
  · by_cases h2 : 2 < kind
    · have HR := Lib.hid (show D.arm kind steps = (2, D) by unfold Dk.arm; rw [if_pos (.inr (.inl h2))])
      go_enter Try.func11, Try.ntmps11
      go_wp2_with fail
      refine (dkNone_any HB.out).mono ?_
      rintro e w' ⟨rfl, rfl⟩
      go_wp2_with fail
      go_ret
      unfold ArmPost
      rw [HR.out]
      exact ⟨rfl, HB.out, Keeps.refl _ _⟩
    · by_cases h3 : kind = 0 ∧ 0 ≤ steps
      · have HR := Lib.hid (show D.arm kind steps = (2, D) by unfold Dk.arm; rw [if_pos (.inr (.inr h3))])
        obtain ⟨rfl, h3⟩ := h3
        go_enter Try.func11, Try.ntmps11
        go_wp2_with fail
        refine (dkNone_any HB.out).mono ?_
        rintro e w' ⟨rfl, rfl⟩
        go_wp2_with fail
        go_ret
        unfold ArmPost
        rw [HR.out]
        exact ⟨rfl, HB.out, Keeps.refl _ _⟩
      · by_cases hdd : D.dead = true
        · have HR := Lib.hid (show D.arm kind steps = (120, D) by unfold Dk.arm; rw [if_neg (by omega), if_pos hdd])
          rw [hdd] at f6
          by_cases hk : kind = 0
          · have h4 : ¬ 0 ≤ steps := fun h => h3 ⟨hk, h⟩
            subst hk
            clear h3 hdd
            go_enter Try.func11, Try.ntmps11
            go_wp2_with fail
            refine (dkNone_any HB.out).mono ?_
            rintro e w' ⟨rfl, rfl⟩
            go_wp2_with fail
            go_ret
            unfold ArmPost
            rw [HR.out]
            exact ⟨rfl, HB.out, Keeps.refl _ _⟩
          · clear h3 hdd
            go_enter Try.func11, Try.ntmps11
            go_wp2_with fail
            refine (dkNone_any HB.out).mono ?_
            rintro e w' ⟨rfl, rfl⟩
            go_wp2_with fail
            go_ret
            unfold ArmPost
            rw [HR.out]
            exact ⟨rfl, HB.out, Keeps.refl _ _⟩
        · have hdd' : D.dead = false := by simpa using hdd
          rw [hdd'] at f6
          by_cases hs0 : steps < 0
          · have HR := Lib.hid (show D.arm kind steps = (0, { D with kind := 0, left := 0 }) by unfold Dk.arm; rw [if_neg (by omega), if_neg hdd, if_pos hs0])
            by_cases hk : kind = 0
            · have h4 : ¬ 0 ≤ steps := fun h => h3 ⟨hk, h⟩
              subst hk
              clear h3 hdd hdd'
              go_enter Try.func11, Try.ntmps11
              go_wp2_with fail
              refine (dkNone_any HB.out).mono ?_
              rintro e w' ⟨rfl, rfl⟩
              go_wp2_with fail
              go_ret
              unfold ArmPost
              rw [HR.out]
              have kk := ((((Keeps.refl w [d]).put 0 (.int .i64 0)).put 1 (.int .i64 steps)).put 0 (.int .i64 0)).put 1 (.int .i64 0)
              have hrow := (((HB.out.row.store 0 (.int .i64 0)).store 1 (.int .i64 steps)).store 0 (.int .i64 0)).store 1 (.int .i64 0)
              rw [arm_off] at hrow
              exact ⟨rfl, HB.out.row_only kk hrow ⟨rfl, rfl, rfl⟩ (by have := HO.out; rwa [HR.out] at this), kk⟩
            · clear h3 hdd hdd'
              go_enter Try.func11, Try.ntmps11
              go_wp2_with fail
              refine (dkNone_any HB.out).mono ?_
              rintro e w' ⟨rfl, rfl⟩
              go_wp2_with fail
              go_ret
              unfold ArmPost
              rw [HR.out]
              have kk := ((((Keeps.refl w [d]).put 0 (.int .i64 kind)).put 1 (.int .i64 steps)).put 0 (.int .i64 0)).put 1 (.int .i64 0)
              have hrow := (((HB.out.row.store 0 (.int .i64 kind)).store 1 (.int .i64 steps)).store 0 (.int .i64 0)).store 1 (.int .i64 0)
              rw [arm_off] at hrow
              exact ⟨rfl, HB.out.row_only kk hrow ⟨rfl, rfl, rfl⟩ (by have := HO.out; rwa [HR.out] at this), kk⟩
          · have HR := Lib.hid (show D.arm kind steps = (0, { D with kind := kind, left := steps }) by unfold Dk.arm; rw [if_neg (by omega), if_neg hdd, if_neg hs0])
            have hk : ¬ kind = 0 := fun h => h3 ⟨h, by omega⟩
            clear h3 hdd hdd'
            go_enter Try.func11, Try.ntmps11
            go_wp2_with fail
            refine (dkNone_any HB.out).mono ?_
            rintro e w' ⟨rfl, rfl⟩
            go_wp2_with fail
            go_ret
            unfold ArmPost
            rw [HR.out]
            have kk : Keeps w ((w.setCell ⟨d, 0, none⟩ (.int .i64 kind)).setCell ⟨d, 1, none⟩ (.int .i64 steps)) [d] := (Keeps.setCell _ _ _).trans (Keeps.setCell _ _ _) (fun _ h _ => h)
            exact ⟨rfl, HB.out.row_only kk ((HB.out.row.store 0 _).store 1 _) ⟨rfl, rfl, rfl⟩ (by have := HO.out; rwa [HR.out] at this), kk⟩
set_option maxRecDepth 100000 in
theorem dkDead_any {w : World} {d m1 m2 : Nat} {V : Value} {D : Dk} (hd : DkAt w d m1 m2 V D) :
    Calls Try.prog 15 #[.pointer (some ⟨d, 0, none⟩)] w fun e w' => e = .returned (.bool D.dead) ∧ w = w' := by
  have HB := Lib.hid hd
  have hr := hd.row
  obtain ⟨A, c, rfl, _⟩ := hd.w.slice
  have f0 := hr.cell 0
  have f1 := hr.cell 1
  have f2 := hr.cell 2
  have f3 := hr.cell 3
  have f4 := hr.cell 4
  have f5 := hr.cell 5
  have f6 := hr.cell 6
  have f7 := hr.cell 7
  simp only [dkRow, List.getElem?_toArray, List.getElem?_cons_zero, List.getElem?_cons_succ] at f0 f1 f2 f3 f4 f5 f6 f7
  clear hd hr
  go_enter Try.func15, Try.ntmps15
  go_wp2_with fail
  refine (dkNone_any HB.out).mono ?_
  rintro e w' ⟨rfl, rfl⟩
  go_wp2_with fail
  go_ret
  exact ⟨rfl, rfl⟩
set_option maxRecDepth 100000 in
theorem dkPages_any {w : World} {d m1 m2 : Nat} {V : Value} {D : Dk} (hd : DkAt w d m1 m2 V D) :
    Calls Try.prog 27 #[.pointer (some ⟨d, 0, none⟩)] w fun e w' => e = .returned (.int .i64 (D.pages : Nat)) ∧ w = w' := by
  have HB := Lib.hid hd
  have hr := hd.row
  obtain ⟨A, c, rfl, _⟩ := hd.w.slice
  have f0 := hr.cell 0
  have f1 := hr.cell 1
  have f2 := hr.cell 2
  have f3 := hr.cell 3
  have f4 := hr.cell 4
  have f5 := hr.cell 5
  have f6 := hr.cell 6
  have f7 := hr.cell 7
  simp only [dkRow, List.getElem?_toArray, List.getElem?_cons_zero, List.getElem?_cons_succ] at f0 f1 f2 f3 f4 f5 f6 f7
  clear hd hr
  go_enter Try.func27, Try.ntmps27
  go_wp2_with fail
  refine (dkNone_any HB.out).mono ?_
  rintro e w' ⟨rfl, rfl⟩
  go_wp2_with fail
  go_ret
  exact ⟨rfl, rfl⟩
set_option maxRecDepth 100000 in
theorem dkWaits_any {w : World} {d m1 m2 : Nat} {V : Value} {D : Dk} (hd : DkAt w d m1 m2 V D) :
    Calls Try.prog 25 #[.pointer (some ⟨d, 0, none⟩)] w fun e w' => e = .returned (.int .i64 (D.waits.length : Nat)) ∧ w = w' := by
  have HB := Lib.hid hd
  have hr := hd.row
  obtain ⟨A, c, rfl, _⟩ := hd.w.slice
  have f0 := hr.cell 0
  have f1 := hr.cell 1
  have f2 := hr.cell 2
  have f3 := hr.cell 3
  have f4 := hr.cell 4
  have f5 := hr.cell 5
  have f6 := hr.cell 6
  have f7 := hr.cell 7
  simp only [dkRow, List.getElem?_toArray, List.getElem?_cons_zero, List.getElem?_cons_succ] at f0 f1 f2 f3 f4 f5 f6 f7
  clear hd hr
  go_enter Try.func25, Try.ntmps25
  go_wp2_with fail
  refine (dkNone_any HB.out).mono ?_
  rintro e w' ⟨rfl, rfl⟩
  go_wp2_with fail
  go_ret
  exact ⟨rfl, rfl⟩
set_option maxRecDepth 100000 in
theorem dkSteps_any {w : World} {d m1 m2 : Nat} {V : Value} {D : Dk} (hd : DkAt w d m1 m2 V D) :
    Calls Try.prog 16 #[.pointer (some ⟨d, 0, none⟩)] w fun e w' => e = .returned (.int .i64 D.steps) ∧ w = w' := by
  have HB := Lib.hid hd
  have hr := hd.row
  obtain ⟨A, c, rfl, _⟩ := hd.w.slice
  have f0 := hr.cell 0
  have f1 := hr.cell 1
  have f2 := hr.cell 2
  have f3 := hr.cell 3
  have f4 := hr.cell 4
  have f5 := hr.cell 5
  have f6 := hr.cell 6
  have f7 := hr.cell 7
  simp only [dkRow, List.getElem?_toArray, List.getElem?_cons_zero, List.getElem?_cons_succ] at f0 f1 f2 f3 f4 f5 f6 f7
  clear hd hr
  go_enter Try.func16, Try.ntmps16
  go_wp2_with fail
  refine (dkNone_any HB.out).mono ?_
  rintro e w' ⟨rfl, rfl⟩
  go_wp2_with fail
  go_ret
  exact ⟨rfl, rfl⟩
/-- A page as it was written last. -/
def Dk.page (D : Dk) (x : Int) : List UInt8 := (D.now x).getD nought
theorem Dk.page_length {D : Dk} (h : DkOk D) (x : Int) : (D.page x).length = 256 := by
  unfold Dk.page
  cases hx : D.now x with
  | none => exact nought_length
  | some b => exact (h.n x b hx).2.2
theorem pageF_get (f : Int → Option (List UInt8)) (x : Int) : (pageF f x).getD (leafV nought) = leafV ((f x).getD nought) := by
  unfold pageF
  cases f x <;> rfl
/-- What Read hands back. -/
def ReadPost (w : World) (D : Dk) (page : Int) (e : Ending) (w' : World) : Prop := Keeps w w' [] ∧
  if 0 ≤ page ∧ page < D.pages then ∃ v, e = .returned (.tuple #[v, .int .i64 0]) ∧ Owned w' w.heap.size v (D.page page) else e = .returned (.tuple #[.slice none 0 0, .int .i64 4])
set_option maxRecDepth 100000 in
set_option maxHeartbeats 1000000 in
theorem dkRead_any (w : World) (d m1 m2 : Nat) (V : Value) (D : Dk) (hd : DkAt w d m1 m2 V D) (page : Int) :
    Calls Try.prog 21 #[.pointer (some ⟨d, 0, none⟩), .int .i64 page] w (ReadPost w D page) := by
  have HB := Lib.hid hd
  have hr := hd.row
  have f0 := hr.cell 0
  have f1 := hr.cell 1
  have f2 := hr.cell 2
  have f3 := hr.cell 3
  have f4 := hr.cell 4
  have f5 := hr.cell 5
  have f6 := hr.cell 6
  have f7 := hr.cell 7
  simp only [dkRow, List.getElem?_toArray, List.getElem?_cons_zero, List.getElem?_cons_succ] at f0 f1 f2 f3 f4 f5 f6 f7
  have hp4 := hd.ok.p4
  clear hd hr
  by_cases h0 : page < 0
  · have HP := Lib.hid (show ¬ (0 ≤ page ∧ page < D.pages) by omega)
    go_enter Try.func21, Try.ntmps21
    go_wp2_with fail
    refine (dkNone_any HB.out).mono ?_
    rintro e w' ⟨rfl, rfl⟩
    go_wp2_with fail
    go_ret2
    unfold ReadPost
    rw [if_neg HP.out]
    exact ⟨Keeps.refl _ _, rfl⟩
  · by_cases h1 : (D.pages : Int) ≤ page
    · have HP := Lib.hid (show ¬ (0 ≤ page ∧ page < D.pages) by omega)
      go_enter Try.func21, Try.ntmps21
      go_wp2_with fail
      refine (dkNone_any HB.out).mono ?_
      rintro e w' ⟨rfl, rfl⟩
      go_wp2_with fail
      go_ret2
      unfold ReadPost
      rw [if_neg HP.out]
      exact ⟨Keeps.refl _ _, rfl⟩
    · have HP := Lib.hid (show 0 ≤ page ∧ page < D.pages by omega)
      obtain ⟨X, hX⟩ : ∃ X, leafC (D.page page) = X := ⟨_, rfl⟩
      obtain ⟨Z, hZ⟩ : ∃ Z, leafC nought = Z := ⟨_, rfl⟩
      have hz : ∀ w, (zeroValue 72).run Try.prog w = .ok (.agg Z) w := by rw [← hZ]; exact zeroLeaf
      have HX := Lib.hid (show X.size = 256 ∧ X.all (·.oneCell') = true ∧ Z.size = 256 ∧ leafC (D.page page) = X from ⟨by rw [← hX, leafC_size, Dk.page_length HB.out.ok], by rw [← hX]; exact leafC_one _, by rw [← hZ, leafC_size, nought_length], hX⟩)
      have hlk := HB.out.n.look undIntD undDisk (zeroLeaf w) (x := page) (by omega) (by omega) false
      rw [if_neg (by decide), pageF_get, leafV, show (D.now page).getD nought = D.page page from rfl, hX] at hlk
      clear hX hZ
      go_enter Try.func21, Try.ntmps21
      go_wp2_with fail
      refine (dkNone_any HB.out).mono ?_
      rintro e w' ⟨rfl, rfl⟩
      go_wp2_with (refine wpList_storeLeaf_new rfl _ _ rfl X Z w rfl HX.out.1 HX.out.2.2.1 HX.out.2.1 rfl rfl ?_)
      have HC := Lib.hid (show Bytes (w.alloc (.cells X 72)) (w.alloc (.cells X 72)).heap.size (.slice (some ⟨w.heap.size, 0, none⟩) 256 256) (D.page page) from by
        have hl := Dk.page_length HB.out.ok page
        refine ⟨some ⟨w.heap.size, 0, none⟩, 256, by rw [hl], by omega, (fun h => by cases h), by simp [maxLen], by omega, fun _ => ⟨w.heap.size, 0, rfl, by simp, fun i u hu => ?_⟩⟩
        rw [Nat.zero_add, (Row.new w 72 X).cell, ← hu, ← leafC_list, HX.out.2.2.2, Array.getElem?_toList])
      refine (clone_any _ _ _ HC.out).mono ?_
      rintro e w3 ⟨v, rfl, h1, h2⟩
      have HE := Lib.hid (And.intro h1 h2)
      clear h1 h2 hlk hz
      go_wp2_with fail
      go_ret2
      unfold ReadPost
      rw [if_pos HP.out]
      have hs := (Keeps.alloc w (.cells X 72)).size
      exact ⟨(Keeps.alloc _ _).then_ HE.out.2, v, rfl, own_base HE.out.1 hs⟩
end Go.Proofs.Ytehlabdbbbbopaa

namespace Go.Proofs.Ytehlabdbbbbopaa
open Go.RowKit Go.Maps

def leavesC (l : List (List UInt8)) : List Value := l.flatMap fun b => b.map byteV
theorem leavesC_one (l : List (List UInt8)) : ∀ u ∈ leavesC l, u.oneCell' = true := fun u hu => by
  obtain ⟨p, _, hp⟩ := List.mem_flatMap.1 hu
  exact byteV_one p u hp
theorem leavesC_append (l m : List (List UInt8)) : leavesC (l ++ m) = leavesC l ++ leavesC m := List.flatMap_append ..
/-- Pages in a row, the call's own. -/
def LeavesAt (w : World) (B : Nat) (v : Value) (l : List (List UInt8)) : Prop := w.ownsRow B 72 256 v l.length (leavesC l)
theorem undLeaves : Try.prog.underlying 84 = some (.slice 72) := by kernel_rfl
theorem infoLeaf3 : (Try.prog.info? 72).map (fun i => (i.zero, i.size, i.bytes)) = some (some (leafV nought), 256, 256) := by kernel_rfl
theorem partsLeaf : ∃ i, Try.prog.info? 72 = some i ∧ i.zero = some (leafV nought) ∧ i.size = 256 ∧ i.bytes = 256 := info_parts infoLeaf3
theorem zeroLeaf_size : (leafV nought).cells.size = 256 := by
  show (leafC nought).size = 256
  rw [leafC_size]
  exact nought_length
set_option maxRecDepth 100000 in
theorem run_sliceLeaf (w : World) {C : Array Value} (hC : C.size = 256) : (Instr.buildSlice 84 1 #[(0, .agg C)]).run Try.prog w = .ok (.slice (some ⟨w.heap.size, 0, none⟩) 1 1) (w.alloc (.cells C 72)) := by
  obtain ⟨it, hi, hz, hs, _⟩ := partsLeaf
  obtain ⟨Z, hZ⟩ : ∃ Z, leafC nought = Z := ⟨_, rfl⟩
  have hz : it.zero = some (.agg Z) := by rw [hz, leafV, hZ]
  have hw := Go.Great.fill_whole (s := 256) (by omega) [.agg C] ((Array.range (1 * 256)).map ((Value.agg Z).cells[· % (Value.agg Z).cells.size]!)) (by intro v hv; obtain rfl := List.mem_singleton.1 hv; exact hC) (by rw [Array.size_map, Array.size_range]; rfl)
  have e : (([Value.agg C].flatMap fun v => v.cells.toList).toArray) = C := by simp [Value.cells]
  rw [e] at hw
  have hw : Instr.fill (fun i => some (i * 256, 256)) ((Array.range 256).map fun x => (Value.agg Z).cells[x % (Value.agg Z).cells.size]!) [(0, .agg C)] = some C := hw
  have h1 : (underlying 84).run Try.prog w = .ok (.slice 72) w := run_underlying undLeaves w
  have h2 : (sizeOf 72).run Try.prog w = .ok 256 w := by simp [sizeOf, typeInfo, hi, hs]
  have h3 : (zeroValue 72).run Try.prog w = .ok (.agg Z) w := by simp [zeroValue, typeInfo, hi, hz]
  have h4 : (newRow 72 C).run Try.prog w = .ok ⟨w.heap.size, 0, none⟩ (w.alloc (.cells C 72)) := by simp [go_sem]
  unfold Instr.buildSlice
  simp only [Sem.run_bind, h1, h2, Result.andThen_ok]
  rw [if_neg (by omega)]
  simp only [Nat.reduceMul]
  rw [if_neg (by decide)]
  simp only [Sem.run_bind, h3, Result.andThen_ok, Sem.run_pure, hw, h4]
theorem append_leaf {w : World} {B g : Nat} {v : Value} {l : List (List UInt8)} {b : List UInt8} {X : Array Value} {ty : TypeId} (h : LeavesAt w B v l) (hl : l.length ≤ 1000000) (hr : Row w g 72 X) (hX : leafC b = X) (hb : b.length = 256) (hB : B ≤ w.heap.size) :
    ∃ v' w', (Builtin.append_ #[84, 84] ty #[v, .slice (some ⟨g, 0, none⟩) 1 1]).run Try.prog w = .ok v' w' ∧ LeavesAt w' B v' (l ++ [b]) ∧ Keeps w w' v.ownBlock.toList ∧ (v'.ownBlock = v.ownBlock ∨ v'.ownBlock = some w.heap.size) := by
  obtain ⟨i0, hi, hz0, hz1, hz2⟩ := partsLeaf
  subst hX
  have hlies : Lies w w.heap.size (some ⟨g, 0, none⟩) (b.map byteV) := fun _ => ⟨g, 0, rfl, hr.lt, fun i u hu => by rw [Nat.zero_add, hr.cell, ← hu, ← leafC_list, Array.getElem?_toList]⟩
  obtain ⟨v', w', hrun, h1, h2, h3⟩ := run_append_liesN (P := Try.prog) w B 84 ty 72 i0 _ 256 256 undLeaves hi hz0 hz1 hz2 zeroLeaf_size (by omega) v l.length (leavesC l) h w.heap.size (some ⟨g, 0, none⟩) 1 1 (b.map byteV) (by rw [List.length_map, hb]) hlies (byteV_one _) (by simp [maxLen]; omega) (by omega) hB
  refine ⟨v', w', hrun, ?_, Keeps.of_grown h2, h3⟩
  unfold LeavesAt
  rw [leavesC_append, List.length_append]
  have : leavesC [b] = b.map byteV := by simp [leavesC]
  rw [this]
  exact h1
/-- What a page was written. -/
def pagesOf (l : List (Int × List UInt8)) (x : Int) : List (List UInt8) := (l.filter fun p => p.1 == x).map (·.2)
theorem pagesOf_snoc (l : List (Int × List UInt8)) (p : Int × List UInt8) (x : Int) : pagesOf (l ++ [p]) x = pagesOf l x ++ (if p.1 = x then [p.2] else []) := by
  unfold pagesOf
  rw [List.filter_append, List.map_append]
  by_cases h : p.1 = x
  · simp [h]
  · simp [h]
/-- The map of what each page was written. -/
structure ByAt (W : World) (B bm : Nat) (l : List (Int × List UInt8)) (f : Int → Option Value) : Prop where
  m : IMap W Try.prog 3 bm f
  no : ∀ x, pagesOf l x = [] → f x = none
  yes : ∀ x, pagesOf l x ≠ [] → ∃ V, f x = some V ∧ LeavesAt W B V (pagesOf l x)
  ne : ∀ x y V V', x ≠ y → f x = some V → f y = some V' → V.ownBlock ≠ V'.ownBlock
  dom : ∀ p ∈ l, 0 ≤ p.1 ∧ p.1 < 4096
  len : l.length ≤ 1000000
section
variable {W W' : World} {B bm : Nat} {l : List (Int × List UInt8)} {f : Int → Option Value}
theorem ByAt.keep {S : List Nat} (h : ByAt W B bm l f) (hk : Keeps W W' S) (hb : bm ∉ S) (hS : ∀ x ∈ S, x < B) : ByAt W' B bm l f := by
  refine ⟨h.m.keep hk hb, h.no, fun x hx => ?_, h.ne, h.dom, h.len⟩
  obtain ⟨V, e, hV⟩ := h.yes x hx
  refine ⟨V, e, ownN_keep hV hk fun g hg hm => ?_⟩
  have h1 := (ownN_row hV g hg).1
  have h2 := hS g hm
  omega
theorem ByAt.keeps (h : ByAt W B bm l f) (hk : Keeps W W' []) : ByAt W' B bm l f := h.keep hk (by simp) (by simp)
theorem ByAt.get (h : ByAt W B bm l f) (x : Int) : LeavesAt W B ((f x).getD (.slice none 0 0)) (pagesOf l x) := by
  by_cases hx : pagesOf l x = []
  · rw [h.no x hx, hx]
    exact ⟨rfl, .inl ⟨rfl, rfl⟩⟩
  · obtain ⟨V, e, hV⟩ := h.yes x hx
    rw [e]
    exact hV
theorem ByAt.some_iff (h : ByAt W B bm l f) {x : Int} (hx : f x ≠ none) : pagesOf l x ≠ [] := fun h2 => hx (h.no x h2)
theorem ByAt.inDom (h : ByAt W B bm l f) : ∀ x, f x ≠ none → x ∈ pageDom := fun x hx => by
  have h1 := h.some_iff hx
  unfold pagesOf at h1
  have h2 : (l.filter fun p => p.1 == x) ≠ [] := fun h => h1 (by rw [h]; rfl)
  obtain ⟨p, hp⟩ := List.exists_mem_of_ne_nil _ h2
  have h3 := List.mem_filter.1 hp
  have h4 : p.1 = x := by simpa using h3.2
  have h5 := h.dom p h3.1
  exact List.mem_map.2 ⟨x.toNat, List.mem_range.2 (by omega), by omega⟩
theorem pagesOf_length (l : List (Int × List UInt8)) (x : Int) : (pagesOf l x).length ≤ l.length := by
  unfold pagesOf
  rw [List.length_map]
  exact List.length_filter_le _ _
theorem ByAt.made (w : World) : ByAt (w.alloc (.map #[] 0)) B w.heap.size [] (fun _ => none) :=
  ⟨IMap.made w _ _, fun _ _ => rfl, fun x hx => absurd rfl hx, fun x y V V' _ h => (by cases h), fun p hp => (by cases hp), (by show 0 ≤ 1000000; omega)⟩
/-- A page more. -/
theorem ByAt.step (h : ByAt W B bm l f) {p : Int} {b : List UInt8} {V1 : Value} {W1 W2 : World} (h1 : LeavesAt W1 B V1 (pagesOf l p ++ [b])) (hk : Keeps W W1 ((f p).getD (.slice none 0 0)).ownBlock.toList) (ho : V1.ownBlock = ((f p).getD (.slice none 0 0)).ownBlock ∨ ∃ g, V1.ownBlock = some g ∧ W.heap.size ≤ g)
    (h2 : IMap W2 Try.prog 3 bm (upd f p (some V1))) (hk2 : Keeps W1 W2 [bm]) (hp : 0 ≤ p ∧ p < 4096) (hl : l.length + 1 ≤ 1000000) : ByAt W2 B bm (l ++ [(p, b)]) (upd f p (some V1)) := by
  have hne : ∀ x V, x ≠ p → f x = some V → V.ownBlock ≠ ((f p).getD (.slice none 0 0)).ownBlock := fun x V hx e he => by
    have hxs : pagesOf l x ≠ [] := h.some_iff (by rw [e]; simp)
    obtain ⟨V', e', hV'⟩ := h.yes x hxs
    rw [e] at e'
    injection e' with e'
    subst e'
    cases hf : f p with
    | none =>
      rw [hf] at he
      rcases hV'.2 with ⟨_, h0⟩ | ⟨g, cap, cur, rfl, _⟩
      · exact hxs (List.eq_nil_of_length_eq_zero h0)
      · cases he
    | some Vp =>
      rw [hf] at he
      exact h.ne x p V Vp hx e hf he
  have keepV : ∀ x V, x ≠ p → f x = some V → ∀ L, LeavesAt W B V L → LeavesAt W2 B V L := fun x V hx e L hL => by
    refine ownN_keep (ownN_keep hL hk fun g hg hm => hne x V hx e ?_) hk2 fun g hg hm => ?_
    · rw [hg]
      cases hob : ((f p).getD (.slice none 0 0)).ownBlock with
      | none => rw [hob] at hm; simp at hm
      | some g' => rw [hob] at hm; simp at hm; rw [hm]
    · obtain ⟨_, cs, hr⟩ := ownN_row hL g hg
      obtain rfl : g = bm := by simpa using hm
      exact imap_ne_row h.m hr rfl
  have hV1 : LeavesAt W2 B V1 (pagesOf l p ++ [b]) := ownN_keep h1 hk2 fun g hg hm => by
    obtain ⟨_, cs, hr⟩ := ownN_row h1 g hg
    obtain rfl : g = bm := by simpa using hm
    have hlt := IMap.lt h.m
    have hbm1 : IMap W1 Try.prog 3 g f := h.m.keep hk fun hm => by
      cases hob : ((f p).getD (.slice none 0 0)).ownBlock with
      | none => rw [hob] at hm; simp at hm
      | some g' =>
        rw [hob] at hm
        obtain rfl : g = g' := by simpa using hm
        obtain ⟨_, cs', hr'⟩ := ownN_row (h.get p) g hob
        exact imap_ne_row h.m hr' rfl
    exact imap_ne_row hbm1 hr rfl
  refine ⟨h2, fun x hx => ?_, fun x hx => ?_, fun x y V V' hxy e e' => ?_, fun q hq => ?_, by simpa using hl⟩
  · rw [pagesOf_snoc] at hx
    by_cases hxp : p = x
    · rw [if_pos hxp] at hx; simp at hx
    · rw [if_neg hxp, List.append_nil] at hx
      rw [upd_other _ (fun e => hxp e.symm)]
      exact h.no x hx
  · rw [pagesOf_snoc] at hx ⊢
    by_cases hxp : p = x
    · subst hxp
      rw [if_pos rfl]
      exact ⟨V1, upd_same .., hV1⟩
    · rw [if_neg hxp, List.append_nil] at hx ⊢
      obtain ⟨V, e, hV⟩ := h.yes x hx
      exact ⟨V, by rw [upd_other _ (fun e => hxp e.symm)]; exact e, keepV x V (fun e => hxp e.symm) e _ hV⟩
  · have fresh : ∀ z Vz, z ≠ p → f z = some Vz → Vz.ownBlock ≠ V1.ownBlock := fun z Vz hz ez he => by
      rcases ho with ho | ⟨g, ho, hg⟩
      · exact hne z Vz hz ez (by rw [he, ho])
      · obtain ⟨V'', e'', hV''⟩ := h.yes z (h.some_iff (by rw [ez]; simp))
        rw [ez] at e''
        injection e'' with e''
        subst e''
        obtain ⟨_, cs, hr⟩ := ownN_row hV'' g (by rw [he, ho])
        have := hr.lt
        omega
    by_cases hx : x = p
    · subst hx
      rw [upd_same] at e
      rw [upd_other _ (fun h => hxy h.symm)] at e'
      injection e with e
      subst e
      exact fun he => fresh y V' (fun h => hxy h.symm) e' he.symm
    · rw [upd_other _ hx] at e
      by_cases hy : y = p
      · subst hy
        rw [upd_same] at e'
        injection e' with e'
        subst e'
        exact fresh x V hx e
      · rw [upd_other _ hy] at e'
        exact h.ne x y V V' hxy e e'
  · rcases List.mem_append.1 hq with hq | hq
    · exact h.dom q hq
    · obtain rfl := List.mem_singleton.1 hq
      exact hp
end
end Go.Proofs.Ytehlabdbbbbopaa

namespace Go.Proofs.Ytehlabdbbbbopaa
open Go.RowKit Go.Maps

section
variable {P : Program} {ops : Array Oper} {rest : List Oper} {op : Oper} {a : Act} {w : World} {Q : Exit → Act → World → Prop}
/-- A value of many cells is read, in a row of operations. -/
theorem wpList_loadAgg (hgd : op.guard = none) (t : TypeId) (x : Operand) (ho : op.op = .load t x) (g o : Nat) (X : Array Value) {d : TypeDesc} (hu : P.underlying t = some d) (hd : d.isRow = true) (hi : (P.info? t).map (·.size) = some X.size) (hx : a.eval x = .pointer (some ⟨g, o, none⟩)) (hc : w.rangeAt g o X.toList)
    (h : wpList P ops Q rest (a.put op.dst (.agg X)) w) : wpList P ops Q (op :: rest) a w :=
  wpList_load_mid hgd t x ho g o hx X.toList d hc hu hd (by rw [Array.length_toList]; exact hi) (by simpa using h)
/-- It is laid into the box that was made last. -/
theorem wpList_storeAgg_new (hgd : op.guard = none) (t : TypeId) (x y : Operand) (ho : op.op = .store t x y) (X Z : Array Value) (w1 : World) (hw : w = w1.alloc (.cells Z t)) (hi : (P.info? t).map (·.size) = some X.size) (hZ : Z.size = X.size) (h1 : X.all (·.oneCell') = true)
    (hx : a.eval x = .pointer (some ⟨w1.heap.size, 0, none⟩)) (hy : a.eval y = .agg X)
    (h : wpList P ops Q rest (a.put op.dst undef) (w1.alloc (.cells X t))) : wpList P ops Q (op :: rest) a w := by
  subst hw
  refine wpList_plain hgd fun _ hK => ?_
  unfold Oper.wp execOp
  have hrun := run_storeAt_new (P := P) w1 t Z X hi hZ h1
  simp only [ho, hx, hy, Sem.run_bind, hrun, Result.andThen_ok, Sem.run_pure]
  exact hK _ _ h
end
theorem waitsC_at {l : List (Int × List UInt8)} (hl : ∀ p ∈ l, p.2.length = 256) {i : Nat} (hi : i < l.length) (j : Nat) (hj : j < 257) : (waitsC l)[i * 257 + j]? = (waitC l[i])[j]? := by
  have h := Go.Great.flat_get (s := 257) (by omega) (l.map fun p => Value.agg (waitC p).toArray) (by
    intro v hv
    obtain ⟨p, hp, rfl⟩ := List.mem_map.1 hv
    show (waitC p).toArray.size = 257
    rw [List.size_toArray, waitC_length (hl p hp)]) (i * 257 + j)
  have e1 : (l.map fun p => Value.agg (waitC p).toArray).flatMap (fun v => v.cells.toList) = waitsC l := by
    rw [List.flatMap_map]
    rfl
  have e2 : (i * 257 + j) / 257 = i := by omega
  have e3 : (i * 257 + j) % 257 = j := by omega
  rw [e1, e2, e3, List.getElem?_map, List.getElem?_eq_getElem hi] at h
  rw [h]
  show (waitC l[i]).toArray[j]? = _
  simp
theorem WaitsAt.at_ {w : World} {B c : Nat} {A : Option Addr} {l : List (Int × List UInt8)} (h : WaitsAt w B (.slice A l.length c) l) (hl : ∀ p ∈ l, p.2.length = 256) {i : Nat} (hi : i < l.length) {p : Int} {b : List UInt8} (e : l[i] = (p, b)) {X : Array Value} (hX : leafC b = X) :
    ∃ g o, A = some ⟨g, o, none⟩ ∧ g < w.heap.size ∧ w.rangeAt g (o + i * 257) (waitA p X).toList := by
  obtain ⟨g, o, rfl, hg, hc⟩ := (WaitsAt.lies h) (by rw [waitsC_length hl]; omega)
  refine ⟨g, o, rfl, hg, fun j v hv => ?_⟩
  subst hX
  rw [waitA_list, ← e] at hv
  have hj : j < 257 := by
    have := (List.getElem?_eq_some_iff.1 hv).1
    rw [waitC_length (hl _ (List.getElem_mem hi))] at this
    exact this
  rw [Nat.add_assoc]
  exact hc (i * 257 + j) v (by rw [waitsC_at hl hi j hj]; exact hv)
theorem waitA_one {p : Int} {X : Array Value} (h : X.all (·.oneCell') = true) : (waitA p X).all (·.oneCell') = true := by
  unfold waitA
  rw [Array.all_append, h, Bool.and_true]
  exact all_oneCell_toArray (cs := [.int .i64 p]) (fun v hv => by obtain rfl := List.mem_singleton.1 hv; rfl)
theorem waitA_zero (p : Int) (X : Array Value) : (waitA p X)[0]? = some (.int .i64 p) := by
  unfold waitA
  rw [Array.getElem?_append_left (by show 0 < 1; omega)]
  rfl
theorem sizeWait {p : Int} {X : Array Value} (h : X.size = 256) : (Try.prog.info? 75).map (·.size) = some (waitA p X).size := by
  obtain ⟨it, hi, _, hs, _⟩ := partsWait
  rw [hi, waitA_size h]
  exact congrArg some hs
theorem zeroWait (w : World) : (zeroValue 75).run Try.prog w = .ok (.agg (waitC (0, nought)).toArray) w := by
  obtain ⟨it, hi, hz, _, _⟩ := partsWait
  simp [zeroValue, typeInfo, hi, hz]
theorem wait_leaf {w : World} {g : Nat} {p : Int} {X : Array Value} (h : Row w g 75 (waitA p X)) : w.rangeAt g 1 X.toList := fun j v hv => by
  rw [h.cell]
  unfold waitA
  rw [Array.getElem?_append_right (by show 1 ≤ 1 + j; omega), ← hv, Array.getElem?_toList]
  congr 1
  show 1 + j - 1 = j
  omega
theorem zeroLeaves (w : World) : (zeroValue 84).run Try.prog w = .ok (.slice none 0 0) w := by kernel_rfl
theorem undBy : Try.prog.underlying 92 = some (.map 3 84) := by kernel_rfl
/-- While the writes are gone over. -/
structure SecAt (w wr : World) (l : List (Int × List UInt8)) (f : Int → Option Value) : Prop where
  box : Row wr (w.heap.size + 1) 92 #[.map (some w.heap.size)]
  by_ : ByAt wr w.heap.size w.heap.size l f
  h : Keeps w wr []
abbrev ButL (S : List Nat) (w w' : World) : Prop := Keeps w w' S
theorem butL_ok (S : List Nat) : RelOk (ButL S) := ⟨fun h => h.weaken (by simp), fun h k => h.trans k (fun _ h _ => h)⟩
set_option maxRecDepth 100000 in
set_option maxHeartbeats 2000000 in
theorem dkSectors_any (w : World) (d m1 m2 : Nat) (V : Value) (D : Dk) (hd : DkAt w d m1 m2 V D) (hl : D.waits.length ≤ 1000000) :
    Calls Try.prog 37 #[.pointer (some ⟨d, 0, none⟩)] w fun e w' => ∃ r bm f, e = .returned (.func (.func 45) #[] #[.pointer (some ⟨r, 0, none⟩)]) ∧ Row w' r 92 #[.map (some bm)] ∧ ByAt w' w.heap.size bm D.waits f ∧ w.heap.size ≤ r ∧ w.heap.size ≤ bm ∧ Keeps w w' [] := by
  obtain ⟨A, c, rfl, _⟩ := hd.w.slice
  have HB := Lib.hid hd
  have HL := Lib.hid hl
  have hmm := @run_makeMap Try.prog
  have hr := hd.row
  have f5 := fun o => (hr.alloc o).cell 5
  have f55 := fun o o' => ((hr.alloc o).alloc o').cell 5
  simp only [dkRow, List.getElem?_toArray, List.getElem?_cons_zero, List.getElem?_cons_succ] at f5 f55
  clear hd hr hl
  go_enter Try.func37, Try.ntmps37
  go_wp2_with fail
  clear f5 f55 hmm
  have HS := Lib.hid (show SecAt w ((w.alloc (.map #[] 0)).alloc (.cells #[.map (some w.heap.size)] 92)) (D.waits.take 0) (fun _ => none) from ⟨by
    have := Row.new (w.alloc (.map #[] 0)) 92 #[.map (some w.heap.size)]
    rwa [World.size_alloc] at this, (ByAt.made w).keeps (Keeps.alloc _ _), (Keeps.alloc _ _).then_alloc _⟩)
  go_loopw [12] (fun i wr => ∃ (k : Nat) (f : Int → Option Value), k ≤ D.waits.length ∧ i = .int .i64 k ∧ Hid (SecAt w wr (D.waits.take k) f)) (fun i _ => D.waits.length - (intOf i).toNat)
  case atStart => exact ⟨0, _, Nat.zero_le _, rfl, HS⟩
  case round =>
    clear HS
    obtain ⟨k, f, hk, rfl, HR⟩ := hrel
    have hl6 : (D.waits.length : Int) ≤ 1000000 := by have := HL.out; omega
    by_cases hkl : k < D.waits.length
    · obtain ⟨p, b, hpb⟩ : ∃ p b, D.waits[k] = (p, b) := ⟨_, _, rfl⟩
      have hpw := HB.out.ok.w _ (List.getElem_mem hkl)
      rw [hpb] at hpw
      have hp4 := HB.out.ok.p4
      obtain ⟨X, hX⟩ : ∃ X, leafC b = X := ⟨_, rfl⟩
      obtain ⟨Z, hZ⟩ : ∃ Z, (waitC (0, nought)).toArray = Z := ⟨_, rfl⟩
      have hz : ∀ w, (zeroValue 75).run Try.prog w = .ok (.agg Z) w := by rw [← hZ]; exact zeroWait
      obtain ⟨g, o, rfl, hg, hrng⟩ := WaitsAt.at_ (HB.out.w.keeps HR.out.h) (fun q hq => (HB.out.ok.w q hq).2.2) hkl hpb hX
      have HX := Lib.hid (show X.size = 256 ∧ X.all (·.oneCell') = true ∧ Z.size = (waitA p X).size ∧ leafC b = X ∧ b.length = 256 from by
        have e : X.size = 256 := by rw [← hX, leafC_size, hpw.2.2]
        exact ⟨e, by rw [← hX]; exact leafC_one b, by rw [waitA_size e, ← hZ]; exact zeroWait_size, hX, hpw.2.2⟩)
      have HRN := Lib.hid hrng
      have HT := Lib.hid (show D.waits.take (k + 1) = D.waits.take k ++ [(p, b)] by rw [List.take_succ_eq_append_getElem hkl, hpb])
      have HP := Lib.hid (show 0 ≤ p ∧ p < 4096 by omega)
      clear hX hZ hpb hpw hp4 hg hrng
      go_wp2_with (first | (refine wpList_loadAgg rfl _ _ rfl g (o + k * 257) (waitA p X) Try.underlying75 rfl (sizeWait HX.out.1) rfl HRN.out ?_) | (refine wpList_storeAgg_new rfl _ _ _ rfl (waitA p X) Z wr rfl (sizeWait HX.out.1) HX.out.2.2.1 (waitA_one HX.out.2.1) rfl rfl ?_))
      clear hz
      obtain ⟨W5, hW5⟩ : ∃ W', wr.alloc (.cells (waitA p X) 75) = W' := ⟨_, rfl⟩
      have k5 : Keeps wr W5 [] := by rw [← hW5]; exact Keeps.alloc _ _
      have r5 : Row W5 wr.heap.size 75 (waitA p X) := by rw [← hW5]; exact Row.new _ _ _
      rw [hW5]
      obtain ⟨V0, hV0⟩ : ∃ V0, (f p).getD (.slice none 0 0) = V0 := ⟨_, rfl⟩
      have HV0 := Lib.hid (show LeavesAt W5 w.heap.size V0 (pagesOf (D.waits.take k) p) from by rw [← hV0]; exact (HR.out.by_.keeps k5).get p)
      have HV := Lib.hid hV0
      obtain ⟨S, hS⟩ : ∃ S, V0.ownBlock.toList = S := ⟨_, rfl⟩
      have HSb := Lib.hid (show ∀ x ∈ S, ∃ cs, Row W5 x 72 cs from fun x hx => by rw [← hS] at hx; exact (ownN_row HV0.out x (by simpa using hx)).2)
      have HSS := Lib.hid hS
      have n1 : w.heap.size + 1 ∉ S := fun hm => by obtain ⟨cs, h⟩ := HSb.out _ hm; exact Row.ne_type h (HR.out.box.keeps k5) (by decide) rfl
      have n2 : wr.heap.size ∉ S := fun hm => by obtain ⟨cs, h⟩ := HSb.out _ hm; exact Row.ne_type h r5 (by decide) rfl
      have n3 : w.heap.size ∉ S := fun hm => by obtain ⟨cs, h⟩ := HSb.out _ hm; exact imap_ne_row (HR.out.by_.keeps k5).m h rfl
      have H5 := Lib.hid (And.intro k5 (And.intro r5 (And.intro (HR.out.box.keeps k5) (And.intro (HR.out.by_.keeps k5) (And.intro n1 (And.intro n2 n3))))))
      have HLK := Lib.hid (show LightK [⟨10, [6, 9], []⟩] (ButL S) (oneA 10 KeepsAll) from .one (butL_ok S) keepsAll_ok)
      have M3 := fun (W' : World) (hC : ButL S W5 W') => (H5.out.2.2.1.keep hC H5.out.2.2.2.2.1).cell 0
      have MW : ∀ W' : World, ButL S W5 W' → W'.cell? ⟨wr.heap.size, 0, none⟩ = some (.int .i64 p) := fun W' hC => ((H5.out.2.1.keep hC H5.out.2.2.2.2.2.1).cell 0).trans (waitA_zero p X)
      have ML : ∀ W' : World, ButL S W5 W' → (Instr.lookup 92 (.map (some w.heap.size)) (.int .i64 p) false).run Try.prog W' = .ok V0 W' := fun W' hC => by
        have h := (H5.out.2.2.2.1.m.keep hC H5.out.2.2.2.2.2.2).look undIntD undBy (zeroLeaves W') (x := p) (by have := HP.out; omega) (by have := HP.out; omega) false
        rwa [if_neg (by decide), HV.out] at h
      simp only [List.getElem?_toArray, List.getElem?_cons_zero] at M3
      clear k5 r5 hW5 hV0 hS n1 n2 n3
      refine wp_region_writersL [⟨10, [6, 9], []⟩] (ButL S) (oneA 10 KeepsAll) _ 11 HLK.out (by kernel_rfl) rfl (by kernel_rfl) ?_
      simp only [List.take_succ_cons, List.take_zero, List.drop_succ_cons, List.drop_zero]
      apply loosek_is 0 _ rfl
      · intro W vals hW hkn
        clear hkn
        have hC := hW.c
        refine ⟨?_⟩
        simp only [fill]
        go_simp
        first | exact ⟨HLK.out.stp (Keeps.refl _ _), rfl⟩ | exact ⟨HLK.out.stp (Keeps.alloc _ _), rfl⟩
      simp only [addEnt]
      apply loosek_is 1 _ rfl
      · intro W vals hW hkn
        clear hkn
        have hC := hW.c
        refine ⟨?_⟩
        simp only [fill]
        go_simp
        first | exact ⟨HLK.out.stp (Keeps.refl _ _), rfl⟩ | exact ⟨HLK.out.stp (Keeps.alloc _ _), rfl⟩
      simp only [addEnt]
      apply loosek_is 2 _ rfl
      · intro W vals hW hkn
        clear hkn
        have hC := hW.c
        refine ⟨?_⟩
        simp only [fill]
        go_simp
        first | exact ⟨HLK.out.stp (Keeps.refl _ _), rfl⟩ | exact ⟨HLK.out.stp (Keeps.alloc _ _), rfl⟩
      simp only [addEnt]
      apply loosek_is 3 _ rfl
      · intro W vals hW hkn
        clear hkn
        have hC := hW.c
        refine ⟨?_⟩
        simp only [fill]
        go_simp
        first | exact ⟨HLK.out.stp (Keeps.refl _ _), rfl⟩ | exact ⟨HLK.out.stp (Keeps.alloc _ _), rfl⟩
      simp only [addEnt]
      apply loosek_is 4 _ rfl
      · intro W vals hW hkn
        clear hkn
        have hC := hW.c
        refine ⟨?_⟩
        simp only [fill]
        go_simp
        first | exact ⟨HLK.out.stp (Keeps.refl _ _), rfl⟩ | exact ⟨HLK.out.stp (Keeps.alloc _ _), rfl⟩
      simp only [addEnt]
      apply loosek_is 5 _ rfl
      · intro W vals hW hkn
        clear hkn
        have hC := hW.c
        refine ⟨?_⟩
        simp only [fill]
        go_simp
        first | exact ⟨HLK.out.stp (Keeps.refl _ _), rfl⟩ | exact ⟨HLK.out.stp (Keeps.alloc _ _), rfl⟩
      simp only [addEnt]
      apply loosek_is 6 _ rfl
      · intro W vals hW hkn
        clear hkn
        have hC := hW.c
        refine ⟨?_⟩
        simp only [fill]
        go_simp
        first | exact ⟨HLK.out.stp (Keeps.refl _ _), rfl⟩ | exact ⟨HLK.out.stp (Keeps.alloc _ _), rfl⟩
      simp only [addEnt]
      apply loosek_is 7 _ rfl
      · intro W vals hW hkn
        clear hkn
        have hC := hW.c
        refine ⟨?_⟩
        simp only [fill]
        go_simp
        first | exact ⟨HLK.out.stp (Keeps.refl _ _), rfl⟩ | exact ⟨HLK.out.stp (Keeps.alloc _ _), rfl⟩
      simp only [addEnt]
      apply loosek_is 8 _ rfl
      · intro W vals hW hkn
        clear hkn
        have hC := hW.c
        exact opOk_loadLeaf rfl _ rfl wr.heap.size 1 X HX.out.1 (by simp only [fill]; go_simp) (wait_leaf (H5.out.2.1.keep hC H5.out.2.2.2.2.2.1)) (HLK.out.stp (Keeps.refl _ _))
      simp only [addEnt]
      refine loosek_has 9 (fun v W' => ∃ g, v = .slice (some ⟨g, 0, none⟩) 1 1 ∧ Row W' g 72 X) rfl (fun W vals hW hkn φ' hφ => ?_) ?_
      · clear hkn
        exact opOk_value rfl (exec_buildSlice (vals := #[(0, .agg X)]) rfl (by simp only [List.map_toArray, List.map_cons, List.map_nil, fill]; go_simp) (run_sliceLeaf W HX.out.1)) (HLK.out.stp (Keeps.alloc _ _)) (hφ.out _ _ ⟨_, rfl, Row.new _ _ _⟩)
      simp only [addEnt]
      refine loosek_has 10 (fun v W' => LeavesAt W' w.heap.size v (pagesOf (D.waits.take k) p ++ [b]) ∧ (v.ownBlock = V0.ownBlock ∨ ∃ g, v.ownBlock = some g ∧ W5.heap.size ≤ g)) rfl (fun W vals hW hkn φ' hφ => ?_) ?_
      · simp only [knowsK] at hkn
        try simp only [and_true] at hkn
        obtain ⟨W4, a0, a1, g9, hv, hr9⟩ := hkn (by decide)
        clear hkn
        have hr9 := hr9.keeps (BtwK.one a1 (.inr (.inr (.inl rfl))))
        have hR := PreK.one hW (.inl rfl)
        have hlv : LeavesAt W w.heap.size V0 (pagesOf (D.waits.take k) p) := ownN_keep HV0.out hR (by simp)
        obtain ⟨v', w', hrun, h1, h2, h3⟩ := append_leaf hlv (b := b) (by have h1 := pagesOf_length (D.waits.take k) p; have h2 := HL.out; rw [List.length_take] at h1; omega) hr9 HX.out.2.2.2.1 HX.out.2.2.2.2 (Nat.le_trans HR.out.h.size (Nat.le_trans H5.out.1.size hR.size))
        refine opOk_value rfl (exec_append2 (a := V0) (b := .slice (some ⟨g9, 0, none⟩) 1 1) rfl (by simp only [fill]; go_simp) (by simp only [fill]; go_simp) hrun) (.one (by rw [← HSS.out]; exact h2) (fun h => absurd rfl h)) (hφ.out _ _ ⟨h1, ?_⟩)
        rcases h3 with h3 | h3
        · exact .inl h3
        · exact .inr ⟨_, h3, hR.size⟩
      simp only [addEnt]
      refine loosek_nil (fun W9 vals hW hkn => ?_)
      simp only [knowsAllK] at hkn
      try simp only [and_true] at hkn
      simp only [fill, Act.put, List.setIfInBounds_toArray, List.set_cons_succ, List.set_cons_zero]
      obtain ⟨⟨Wa, a0, a1, ha, ho⟩, -⟩ := hkn
      have ha : LeavesAt W9 w.heap.size (vals 26) (pagesOf (D.waits.take k) p ++ [b]) := ownN_keep ha (PostK.one a1 (.inl rfl)) (by simp)
      have hm9 := H5.out.2.2.2.1.m.keep hW H5.out.2.2.2.2.2.2
      obtain ⟨W10, hrun, hp2, hk2, _⟩ := hm9.store undIntD undBy H5.out.2.2.2.1.inDom pageDom_lt (x := p) (by have := HP.out; omega) (by have := HP.out; omega) (vals 26)
      have hst := H5.out.2.2.2.1.step (V1 := vals 26) ha (by rw [HV.out, HSS.out]; exact hW) (by rw [HV.out]; exact ho) hp2 hk2 HP.out (by have := HL.out; rw [List.length_take]; omega)
      have hbx := (H5.out.2.2.1.keep hW H5.out.2.2.2.2.1).keep hk2 (by simp)
      have hkk : Keeps w W10 [] := by
        have e1 : Keeps w W5 [] := HR.out.h.then_ H5.out.1
        have e2 : Keeps w W9 [] := e1.trans hW (fun x hx hlt => by
          rw [← HSS.out] at hx
          have := (ownN_row HV0.out x (by simpa using hx)).1
          omega)
        exact e2.trans hk2 (fun x hx hlt => by simp at hx; omega)
      have HE := Lib.hid (show SecAt w W10 (D.waits.take (k + 1)) (upd f p (some (vals 26))) from ⟨hbx, by rw [HT.out]; exact hst, hkk⟩)
      clear a0 a1 ha ho hm9 hp2 hk2 hst hbx hkk hW M3 MW ML
      go_wp2_with fail
      exact ⟨⟨k + 1, _, by omega, by go_num, HE⟩, by simp [intOf]; omega⟩
    · obtain rfl : k = D.waits.length := by omega
      have HF := Lib.hid (show SecAt w wr D.waits f by have := HR.out; rwa [List.take_length] at this)
      clear HR
      go_wp2_with fail
      go_ret
      exact ⟨w.heap.size + 1, w.heap.size, f, rfl, HF.out.box, HF.out.by_, by omega, Nat.le_refl _, HF.out.h⟩
end Go.Proofs.Ytehlabdbbbbopaa

namespace Go.Proofs.Ytehlabdbbbbopaa
open Go.RowKit Go.Maps

/-- Which choice a pick means. -/
def roundOf (x n : Int) : Int := ((x.tmod (n + 1)) + n + 1).tmod (n + 1)
theorem roundOf_range {x n : Int} (h : 0 ≤ n) : 0 ≤ roundOf x n ∧ roundOf x n ≤ n := by
  unfold roundOf
  have h1 := Int.lt_tmod_of_pos x (show 0 < n + 1 by omega)
  have h2 := Int.tmod_nonneg (n + 1) (show 0 ≤ x.tmod (n + 1) + n + 1 by omega)
  have h3 := Int.tmod_lt_of_pos (x.tmod (n + 1) + n + 1) (show 0 < n + 1 by omega)
  omega
theorem roundOf_bounds {x n : Int} (h : 0 ≤ n) (hn : n ≤ 1000000) : -1000001 ≤ x.tmod (n + 1) ∧ x.tmod (n + 1) ≤ 1000001 := by
  have h1 := Int.lt_tmod_of_pos x (show 0 < n + 1 by omega)
  have h2 := Int.tmod_lt_of_pos x (show 0 < n + 1 by omega)
  omega
set_option maxRecDepth 100000 in
theorem round_any (w : World) (x n : Int) (h : 0 ≤ n) (hn : n ≤ 1000000) : Calls Try.prog 38 #[.int .i64 x, .int .i64 n] w fun e w' => e = .returned (.int .i64 (roundOf x n)) ∧ w = w' := by
  have hz1 : n + 1 ≠ 0 := by omega
  have hz2 : ¬ (n + 1 = -1) := by omega
  have hb := roundOf_bounds (x := x) h hn
  have hr := roundOf_range (x := x) h
  have HE := Lib.hid (show ((x.tmod (n + 1)) + n + 1).tmod (n + 1) = roundOf x n from rfl)
  unfold roundOf at hr
  go_enter Try.func38, Try.ntmps38
  go_wp2_with fail
  go_ret
  exact ⟨by rw [HE.out]; rfl, rfl⟩
theorem dk_ne_new {w : World} {d m1 m2 : Nat} {V : Value} {D : Dk} (h : DkAt w d m1 m2 V D) : d < w.heap.size ∧ m1 < w.heap.size ∧ m2 < w.heap.size := ⟨h.row.lt, h.l.lt, h.n.lt⟩
set_option maxRecDepth 100000 in
set_option maxHeartbeats 1000000 in
theorem dkCopy_any (w : World) (d m1 m2 : Nat) (V : Value) (D : Dk) (hd : DkAt w d m1 m2 V D) :
    Calls Try.prog 20 #[.pointer (some ⟨d, 0, none⟩)] w fun e w' => ∃ c n1 n2, e = .returned (.pointer (some ⟨c, 0, none⟩)) ∧ DkAt w' c n1 n2 V D ∧ w.heap.size ≤ c ∧ w.heap.size ≤ n1 ∧ w.heap.size ≤ n2 ∧ Keeps w w' [] := by
  obtain ⟨A9, c9, rfl, -⟩ := hd.w.slice
  have HB := Lib.hid hd
  have hr := hd.row
  have hlt := dk_ne_new hd
  have f0 := hr.cell 0
  have f1 := hr.cell 1
  have f2 := hr.cell 2
  have f3 := hr.cell 3
  have f4 := hr.cell 4
  have f5 := hr.cell 5
  have f6 := hr.cell 6
  have f7 := hr.cell 7
  simp only [dkRow, List.getElem?_toArray, List.getElem?_cons_zero, List.getElem?_cons_succ] at f0 f1 f2 f3 f4 f5 f6 f7
  clear hd hr
  go_enter Try.func20, Try.ntmps20
  go_wp2_with fail
  refine (dkNone_any HB.out).mono ?_
  rintro e w' ⟨rfl, rfl⟩
  go_wp2_with fail
  obtain ⟨W1, hW1⟩ : ∃ W', w.alloc (.cells #[.int .i64 D.kind, .int .i64 D.left, .int .i64 (D.pages : Nat), .map (some m1), .map (some m2), .slice A9 D.waits.length c9, .bool D.dead, .int .i64 D.steps] 67) = W' := ⟨_, rfl⟩
  have k1 : Keeps w W1 [] := by rw [← hW1]; exact Keeps.alloc _ _
  have r1 : Row W1 w.heap.size 67 (dkRow D m1 m2 (.slice A9 D.waits.length c9)) := by rw [← hW1]; exact Row.new _ _ _
  have s1 : W1.heap.size = w.heap.size + 1 := by rw [← hW1]; simp
  rw [hW1]
  have HW := Lib.hid (And.intro (HB.out.keeps k1) (And.intro r1 (And.intro k1 s1)))
  obtain ⟨c, hc⟩ : ∃ c, w.heap.size = c := ⟨_, rfl⟩
  rw [hc] at HW hlt ⊢
  clear k1 r1 s1 hW1 f0 f1 f2 f3 f4 f5 f6 f7
  have nd : d ≠ c ∧ m1 ≠ c ∧ m2 ≠ c := by omega
  have HLK := Lib.hid (show LightK [⟨11, [3, 4, 8, 9], []⟩] (ButK c) (oneA 11 KeepsAll) from .one (keepsBut_ok c) keepsAll_ok)
  have M3 := fun (W' : World) (hC : ButK c W1 W') => (HW.out.1.row.keep hC (by simpa using nd.1)).cell 3
  have M4 := fun (W' : World) (hC : ButK c W1 W') => (HW.out.1.row.keep hC (by simpa using nd.1)).cell 4
  simp only [dkRow, List.getElem?_toArray, List.getElem?_cons_zero, List.getElem?_cons_succ] at M3 M4
  refine wp_region_writersL [⟨11, [3, 4, 8, 9], []⟩] (ButK c) (oneA 11 KeepsAll) _ 12 HLK.out (by kernel_rfl) rfl (by kernel_rfl) ?_
  simp only [List.take_succ_cons, List.take_zero, List.drop_succ_cons, List.drop_zero]
  apply loosek_is 0 _ rfl
  · intro W vals hW hkn
    clear hkn
    have hC := hW.c
    refine ⟨?_⟩
    simp only [fill]
    go_simp
    first | exact ⟨HLK.out.stp (Keeps.refl _ _), rfl⟩ | exact ⟨HLK.out.stp (Keeps.alloc _ _), rfl⟩
  simp only [addEnt]
  apply loosek_is 1 _ rfl
  · intro W vals hW hkn
    clear hkn
    have hC := hW.c
    refine ⟨?_⟩
    simp only [fill]
    go_simp
    first | exact ⟨HLK.out.stp (Keeps.refl _ _), rfl⟩ | exact ⟨HLK.out.stp (Keeps.alloc _ _), rfl⟩
  simp only [addEnt]
  apply loosek_is 2 _ rfl
  · intro W vals hW hkn
    clear hkn
    have hC := hW.c
    refine ⟨?_⟩
    simp only [fill]
    go_simp
    first | exact ⟨HLK.out.stp (Keeps.refl _ _), rfl⟩ | exact ⟨HLK.out.stp (Keeps.alloc _ _), rfl⟩
  simp only [addEnt]
  apply loosek_is 3 _ rfl
  · intro W vals hW hkn
    clear hkn
    have hC := hW.c
    refine ⟨?_⟩
    simp only [fill]
    go_simp
    first | exact ⟨HLK.out.stp (Keeps.refl _ _), rfl⟩ | exact ⟨HLK.out.stp (Keeps.alloc _ _), rfl⟩
  simp only [addEnt]
  refine loosek_has 4 (fun v W' => ∃ b, v = .map (some b) ∧ DMap W' b D.lasts ∧ c < b) rfl (fun W vals hW hkn φ' hφ => ?_) ?_
  · have hC := hW.c
    simp only [knowsK] at hkn
    try simp only [and_true] at hkn
    clear hkn
    refine ⟨?_⟩
    simp only [fill]
    go_simp
    ((with_reducible refine loosek_calls_has HLK.out hφ ?_); refine (cloneD_any (HW.out.1.l.keep hC (by simpa using nd.2.1))).mono ?_; rintro e w5 ⟨rfl, h, hk⟩; exact ⟨_, rfl, hk, _, rfl, h, by have := hC.size; have := HW.out.2.2.2; omega⟩)
  simp only [addEnt]
  apply loosek_is 5 _ rfl
  · intro W vals hW hkn
    clear hkn
    have hC := hW.c
    refine ⟨?_⟩
    simp only [fill]
    go_simp
    first | exact ⟨HLK.out.stp (Keeps.refl _ _), rfl⟩ | exact ⟨HLK.out.stp (Keeps.alloc _ _), rfl⟩
  simp only [addEnt]
  apply loosek_is 6 _ rfl
  · intro W vals hW hkn
    clear hkn
    have hC := hW.c
    refine ⟨?_⟩
    simp only [fill]
    go_simp
    first | exact ⟨HLK.out.stp (Keeps.refl _ _), rfl⟩ | exact ⟨HLK.out.stp (Keeps.alloc _ _), rfl⟩
  simp only [addEnt]
  apply loosek_is 7 _ rfl
  · intro W vals hW hkn
    clear hkn
    have hC := hW.c
    refine ⟨?_⟩
    simp only [fill]
    go_simp
    first | exact ⟨HLK.out.stp (Keeps.refl _ _), rfl⟩ | exact ⟨HLK.out.stp (Keeps.alloc _ _), rfl⟩
  simp only [addEnt]
  apply loosek_is 8 _ rfl
  · intro W vals hW hkn
    clear hkn
    have hC := hW.c
    refine ⟨?_⟩
    simp only [fill]
    go_simp
    first | exact ⟨HLK.out.stp (Keeps.refl _ _), rfl⟩ | exact ⟨HLK.out.stp (Keeps.alloc _ _), rfl⟩
  simp only [addEnt]
  refine loosek_had 9 [13] (fun rd v W' => ∃ b b9, rd = [.map (some b9)] ∧ v = .map (some b) ∧ DMap W' b D.now ∧ c < b ∧ b9 ≠ b) rfl (by kernel_rfl) (fun W vals hW hkn φ' hφ => ?_) ?_
  · have hC := hW.c
    simp only [knowsK] at hkn
    try simp only [and_true] at hkn
    obtain ⟨W1, h0, h1, b9, hv9, hp9, hb9⟩ := hkn (by decide); have H9 := Lib.hid (And.intro hv9 (Nat.lt_of_lt_of_le hp9.lt h1.c.size)); clear hkn hv9 hp9 hb9 h0 h1
    refine ⟨?_⟩
    simp only [fill]
    go_simp
    ((with_reducible refine loosek_calls_has HLK.out hφ ?_); refine (cloneD_any (HW.out.1.n.keep hC (by simpa using nd.2.2))).mono ?_; rintro e w5 ⟨rfl, h, hk⟩; exact ⟨_, rfl, hk, _, b9, by simp [H9.out.1], rfl, h, by have := hC.size; have := HW.out.2.2.2; omega, by have := H9.out.2; omega⟩)
  simp only [addEnt]
  apply loosek_is 10 _ rfl
  · intro W vals hW hkn
    clear hkn
    have hC := hW.c
    refine ⟨?_⟩
    simp only [fill]
    go_simp
    first | exact ⟨HLK.out.stp (Keeps.refl _ _), rfl⟩ | exact ⟨HLK.out.stp (Keeps.alloc _ _), rfl⟩
  simp only [addEnt]
  refine loosek_had 11 [13] (fun rd _ W' => ∃ b, rd = [.map (some b)] ∧ DMap W' b D.lasts ∧ c < b ∧ Row W' c 67 (dkRow D b m2 (.slice A9 D.waits.length c9))) rfl (by kernel_rfl) (fun W vals hW hkn φ' hφ => ?_) ?_
  · have hC := hW.c
    simp only [knowsK] at hkn
    try simp only [and_true] at hkn
    obtain ⟨W2, h0, h1, b9, hv, hm, hb⟩ := hkn.2 (by decide); clear hkn; have hR := PreK.one hW (.inl rfl); have hc11 := HW.out.2.1.keeps hR; have HD := Lib.hid (And.intro hc11 (And.intro (hm.keep h1.c (by simp; omega)) (And.intro hb hv))); have f3 := hc11.cell 3; have z3 := hc11.frozen 3; simp only [dkRow, List.getElem?_toArray, List.getElem?_cons_zero, List.getElem?_cons_succ] at f3; clear hc11 hR h0 h1 hm hb hC hW
    refine ⟨?_⟩
    simp only [fill]
    go_simp
    exact ⟨.one (Keeps.setCell _ _ _) (fun h => absurd rfl h), hφ.out _ _ ⟨b9, by simp [HD.out.2.2.2], HD.out.2.1.keep (Keeps.setCell _ _ _) (by have := HD.out.2.2.1; simp; omega), HD.out.2.2.1, HD.out.1.store 3 _⟩⟩
  simp only [addEnt]
  refine loosek_nil (fun W9 vals hW hkn => ?_)
  simp only [knowsAllK] at hkn
  try simp only [and_true] at hkn
  simp only [fill, Act.put, List.setIfInBounds_toArray, List.set_cons_succ, List.set_cons_zero]
  obtain ⟨⟨_, Wa, a0, a1, b1, e1, hm1, hb1, hr1⟩, ⟨Wb, a2, a3, b2, b3, e3, hv2, hm2, hb2, hne⟩, -⟩ := hkn
  obtain rfl : b3 = b1 := by rw [e1] at e3; simpa using e3.symm
  have hk1 := PostK.one a1 (.inl rfl)
  have hr := hr1.keeps hk1
  rw [hv2]
  have HE := Lib.hid (And.intro (hm1.keep hk1 (by simp)) (And.intro (hm2.keep a3.c (by simp; omega)) (And.intro hr (And.intro hne (And.intro hW (And.intro hb1 hb2))))))
  have f4 := hr.cell 4
  have z4 := hr.frozen 4
  simp only [dkRow, List.getElem?_toArray, List.getElem?_cons_zero, List.getElem?_cons_succ] at f4
  clear a0 a1 a2 a3 e1 hm1 hb1 hr1 hm2 hb2 hne hk1 hr hW M3 M4 e3 hv2
  go_wp2_with fail
  go_ret
  have k2 : Keeps W1 (W9.setCell ⟨c, 4, none⟩ (.map (some b2))) [c] := HE.out.2.2.2.2.1.trans (Keeps.setCell _ _ _) (fun _ h _ => h)
  have hrow := HE.out.2.2.1.store 4 (.map (some b2))
  have hb := HE.out.2.2.2.2.2
  refine ⟨c, b3, b2, rfl, ⟨hrow, HE.out.1.keep (Keeps.setCell _ _ _) (by simp; omega), HE.out.2.1.keep (Keeps.setCell _ _ _) (by simp; omega), HW.out.1.w.keep k2 (fun x hx cs h => ?_), HE.out.2.2.2.1, HB.out.ok⟩, by omega, by omega, by omega, HW.out.2.2.1.trans k2 (fun x hx hlt => by simp at hx; omega)⟩
  obtain rfl := List.mem_singleton.1 hx
  exact Row.ne_type h HW.out.2.1 (by decide) rfl
end Go.Proofs.Ytehlabdbbbbopaa
