/- Layer 7: what a call of the law does, at a space in whatever company. Layer 7: is a space the document's? -/
import Derived.Test.YtanbdkfkkochgaaPa25
import Derived.Test.YtanbdkfkkochgaaPa18
import Derived.Test.YtanbdkfkkochgaaPa26

namespace Go.Proofs.Ytanbdkfkkochgaa
open Go.RowKit Go.Maps Go.Shelf

/-- All blocks of cells but s are as they were (this can be chained). -/
structure RowsBut (s : Nat) (w w' : World) : Prop where
  size : w.heap.size ≤ w'.heap.size
  row : ∀ {b : Nat} {t : TypeId} {cs : Array Value}, b ≠ s → Row w b t cs → Row w' b t cs
section
variable {w w' w'' : World} {s : Nat}
theorem RowsBut.refl : RowsBut s w w := ⟨Nat.le_refl _, fun _ h => h⟩
theorem RowsBut.of_keeps (h : Keeps w w' []) : RowsBut s w w' := ⟨h.size, fun _ hr => hr.keeps h⟩
theorem RowsBut.of_apart (h : Apart w w' s) : RowsBut s w w' := ⟨h.size, fun hne hr => h.row hr hne⟩
theorem RowsBut.trans (h : RowsBut s w w') (h' : RowsBut s w' w'') : RowsBut s w w'' := ⟨Nat.le_trans h.size h'.size, fun hne hr => h'.row hne (h.row hne hr)⟩
theorem RowsBut.keeps (h : RowsBut s w w') (h' : Keeps w' w'' []) : RowsBut s w w'' := h.trans (.of_keeps h')
theorem RowsBut.set {b : Nat} {i : Nat} {v : Value} (h : RowsBut s w w') (hb : w.heap.size ≤ b) : RowsBut s w (w'.setCell ⟨b, i, none⟩ v) :=
  ⟨by simpa using h.size, fun hne hr => (h.row hne hr).keep (Keeps.setCell _ _ _) (by have := hr.lt; simp; omega)⟩
theorem RefL.rows {A : Option Addr} {L : List Nat} {ss : Array Value} (h : RefL w A L) (ha : RowsBut s w w') (hs : Row w s 59 ss) : RefL w' A L := fun hp => by
  obtain ⟨b, o, cs, e, hr, hc⟩ := h hp
  exact ⟨b, o, cs, e, ha.row (Row.ne_type hr hs (by decide)) hr, hc⟩
theorem RefAt.rows {g : Value} {most : Int} {L M : List Nat} {ss : Array Value} (h : RefAt w g most L M) (ha : RowsBut s w w') (hs : Row w s 59 ss) : RefAt w' g most L M := by
  obtain ⟨A, c, B, d, e, h1, h2⟩ := h.e
  exact ⟨A, c, B, d, e, h1.rows ha hs, h2.rows ha hs⟩
end
/-- A space in some company: what calls make of it. -/
structure SpSense (n0 : Nat) (P : World → List Nat → List Nat → Prop) (s most : Nat) : Prop where
  size : ∀ {w L M}, P w L M → n0 ≤ w.heap.size
  box : ∀ {w w' L M b cs}, P w L M → n0 ≤ b → Row w b 39 cs → Keeps w w' [b] → P w' L M
  keeps : ∀ {w w' L M}, P w L M → Keeps w w' [] → P w' L M
  row : ∀ {w L M}, P w L M → ∃ ss, Row w s 59 ss
  take : ∀ {w L M}, P w L M → Calls Try.prog 11 #[.pointer (some ⟨s, 0, none⟩)] w fun e w' =>
    e = .returned (.tuple #[.int .i64 (spTake most L).2.1, .int .i64 ((spTake most L).2.2 : Nat)]) ∧ P w' (spTake most L).1 M ∧ Apart w w' s
  give : ∀ {w L M}, P w L M → ∀ x : Int, -9223372036854775808 ≤ x → x ≤ 9223372036854775807 → Calls Try.prog 13 #[.pointer (some ⟨s, 0, none⟩), .int .i64 x] w fun e w' =>
    e = .returned (.int .i64 ((spGive L x).2 : Nat)) ∧ P w' (spGive L x).1 M ∧ Apart w w' s
  lasts : ∀ {w L M}, P w L M → Calls Try.prog 26 #[.pointer (some ⟨s, 0, none⟩)] w fun e w' =>
    e = .returned (.int .i64 0) ∧ P w' (spLasts L) (spLasts L) ∧ Apart w w' s
  undo : ∀ {w L M}, P w L M → Calls Try.prog 14 #[.pointer (some ⟨s, 0, none⟩)] w fun e w' =>
    e = .returned (.int .i64 0) ∧ P w' M M ∧ Apart w w' s
theorem SpIn.box {w0 w w' : World} {s most b : Nat} {L M : List Nat} {cs : Array Value} (h : SpIn w0 w s most L M) (hb : w0.heap.size ≤ b) (hr : Row w b 39 cs) (hk : Keeps w w' [b]) : SpIn w0 w' s most L M := by
  obtain ⟨⟨m1, m2, h1, h2, h3⟩, h4, h5⟩ := h
  have e1 := IMap.ne_row h1.p1 hr
  have e2 := IMap.ne_row h1.p2 hr
  have e3 := Row.ne_type h1.row hr (by decide)
  exact ⟨⟨m1, m2, h1.keep hk (by simpa using e3) (by simpa using e1) (by simpa using e2), h2, h3⟩, h4, h5.trans hk (fun y hy hlt => by simp at hy; omega)⟩
theorem SpTwo.box {w0 w w' : World} {s t most most' b : Nat} {L M L' M' : List Nat} {cs : Array Value} (h : SpTwo w0 w s t most L M most' L' M') (hb : w0.heap.size ≤ b) (hr : Row w b 39 cs) (hk : Keeps w w' [b]) : SpTwo w0 w' s t most L M most' L' M' := by
  obtain ⟨⟨m1, m2, k1, k2, h1, h2, hb0, hd⟩, hne, hf, hk0⟩ := h
  have e1 := IMap.ne_row h1.p1 hr
  have e2 := IMap.ne_row h1.p2 hr
  have e3 := Row.ne_type h1.row hr (by decide)
  have f1 := IMap.ne_row h2.p1 hr
  have f2 := IMap.ne_row h2.p2 hr
  have f3 := Row.ne_type h2.row hr (by decide)
  exact ⟨⟨m1, m2, k1, k2, h1.keep hk (by simpa using e3) (by simpa using e1) (by simpa using e2), h2.keep hk (by simpa using f3) (by simpa using f1) (by simpa using f2), hb0, hd⟩, hne, hf, hk0.trans hk (fun y hy hlt => by simp at hy; omega)⟩
theorem SpSense.one (w0 : World) (s most : Nat) : SpSense w0.heap.size (fun w L M => SpIn w0 w s most L M) s most :=
  ⟨fun h => h.h.size, fun h hb hr hk => h.box hb hr hk, fun h k => h.keeps k, fun h => by obtain ⟨⟨m1, m2, h1, h2, h3⟩, h4, h5⟩ := h; exact ⟨_, h1.row⟩, fun h => spTake_sp h, fun h x h1 h2 => spGive_sp h x h1 h2, fun h => spLasts_sp h, fun h => spUndo_sp h⟩
theorem SpSense.two (w0 : World) (s most t most' : Nat) (L' M' : List Nat) : SpSense w0.heap.size (fun w L M => SpTwo w0 w s t most L M most' L' M') s most :=
  ⟨fun h => h.h.size, fun h hb hr hk => h.box hb hr hk, fun h k => h.keeps k, fun h => by obtain ⟨⟨m1, m2, k1, k2, h1, h2, hb⟩, h4, h5⟩ := h; exact ⟨_, h1.row⟩, fun h => spTake_two h, fun h x h1 h2 => spGive_two h x h1 h2, fun h => spLasts_two' h, fun h => spUndo_two h⟩
/-- What a call makes of a list, and of that as it lasted. -/
def spAct (k x : Int) (most : Nat) (L M : List Nat) : List Nat × List Nat :=
  if k = 1 then ((spTake most L).1, M) else if k = 2 then ((spGive L x).1, M) else if k = 3 then (spLasts L, spLasts L) else if k = 4 then (M, M) else (L, M)
theorem does_door (W : World) (t : Array Value) (b : Nat) (x0 x1 x2 y : Value) (h : t.getD 6 undef = .pointer (some ⟨b, 0, none⟩)) (h7 : t.getD 7 undef = y) (r : Row W b 39 #[x0, x1, x2]) (R : Ending → World → Prop) (hR : R (.returned (.tuple #[.agg #[x0, x1, x2], y])) W) :
    bodyPost Try.prog Try.f18 R Exit.ret { tmps := t, defers := [] } W := by
  have c0 := r.cell 0
  have c1 := r.cell 1
  have c2 := r.cell 2
  rw [Array.getD_eq_getD_getElem?] at h h7
  simp at c0 c1 c2
  refine bodyPost_ret (v := .tuple #[.agg #[x0, x1, x2], y]) ?_ rfl hR
  simp [results, Try.results18, go_sem, h, h7, c0, c1, c2]
/-- The reference's space that a call hands back. -/
def DoesPost (P : World → List Nat → List Nat → Prop) (s most : Nat) (k x : Int) (most' : Nat) (L M L' M' : List Nat) (w : World) (e : Ending) (w' : World) : Prop :=
  ∃ g' b, e = .returned (.tuple #[g', .bool b]) ∧ RefAt w' g' most' (spAct k x most' L' M').1 (spAct k x most' L' M').2 ∧ P w' (spAct k x most L M).1 (spAct k x most L M).2 ∧ RowsBut s w w' ∧ (most = most' → L = L' → b = true)
theorem does_end {P : World → List Nat → List Nat → Prop} {n0 s most : Nat} (hP : SpSense n0 P s most) {k x : Int} {most' : Nat} {L M L' M' La Ma Lb Mb : List Nat} {w w1 : World} {y0 y1 y2 x0 x1 x2 : Value} (hk : RowsBut s w w1) (hn : n0 ≤ w.heap.size) (hP1 : P w1 La Ma) (hg : RefAt w1 (.agg #[x0, x1, x2]) most' Lb Mb)
    (hr : Row w1 (w.heap.size + 1 + 1) 39 #[y0, y1, y2]) {b : Bool} (e1 : spAct k x most L M = (La, Ma)) (e2 : spAct k x most' L' M' = (Lb, Mb)) (hb : most = most' → L = L' → b = true)
    {t : Array Value} (h6 : t.getD 6 undef = .pointer (some ⟨w.heap.size + 1 + 1, 0, none⟩)) (h7 : t.getD 7 undef = .bool b) :
    bodyPost Try.prog Try.f18 (DoesPost P s most k x most' L M L' M' w) Exit.ret { tmps := t, defers := [] } (((w1.setCell ⟨w.heap.size + 1 + 1, 0, none⟩ x0).setCell ⟨w.heap.size + 1 + 1, 1, none⟩ x1).setCell ⟨w.heap.size + 1 + 1, 2, none⟩ x2) := by
  obtain ⟨p1, p2⟩ := ref_put hr x0 x1 x2
  refine does_door _ _ _ _ _ _ _ h6 h7 p1 _ ⟨_, _, rfl, ?_, ?_, ?_, hb⟩
  · rw [e2]
    exact hg.box p2 fun y hy => by obtain rfl := List.mem_singleton.1 hy; exact ⟨_, hr⟩
  · rw [e1]
    exact hP.box hP1 (by omega) hr p2
  · exact ((hk.set (by omega)).set (by omega)).set (by omega)
/-- All blocks of cells stay but s; block b may become X. -/
structure FillR (s b : Nat) (X : Array Value) (w w' : World) : Prop where
  size : w.heap.size ≤ w'.heap.size
  row : ∀ {c : Nat} {t : TypeId} {cs : Array Value}, c ≠ s → c ≠ b → Row w c t cs → Row w' c t cs
  fin : Row w b 39 X → Row w' b 39 X
  some : (∃ u0 u1 u2, Row w b 39 #[u0, u1, u2]) → ∃ u0 u1 u2, Row w' b 39 #[u0, u1, u2]
structure FillR1 (b : Nat) (X : Array Value) (w w' : World) : Prop where
  k : Keeps w w' [b]
  fin : Row w b 39 X → Row w' b 39 X
  some : (∃ u0 u1 u2, Row w b 39 #[u0, u1, u2]) → ∃ u0 u1 u2, Row w' b 39 #[u0, u1, u2]
section
variable {s b : Nat} {X : Array Value} {w w' w'' : World}
theorem FillR.trans (h : FillR s b X w w') (h' : FillR s b X w' w'') : FillR s b X w w'' := ⟨Nat.le_trans h.size h'.size, fun a b h0 => h'.row a b (h.row a b h0), fun h0 => h'.fin (h.fin h0), fun h0 => h'.some (h.some h0)⟩
theorem FillR1.refl : FillR1 b X w w := ⟨Keeps.refl _ _, id, id⟩
theorem FillR1.trans (h : FillR1 b X w w') (h' : FillR1 b X w' w'') : FillR1 b X w w'' := ⟨h.k.trans h'.k (fun _ h _ => h), fun h0 => h'.fin (h.fin h0), fun h0 => h'.some (h.some h0)⟩
theorem FillR1.to (h : FillR1 b X w w') : FillR s b X w w' := ⟨h.k.size, fun _ hb hr => hr.keep h.k (by simpa using hb), h.fin, h.some⟩
theorem FillR1.of_keeps (h : Keeps w w' []) : FillR1 b X w w' := ⟨h.weaken (by simp), fun h0 => h0.keeps h, fun ⟨u0, u1, u2, h0⟩ => ⟨u0, u1, u2, h0.keeps h⟩⟩
theorem FillR.of_apart (h : Apart w w' s) (hb : b ≠ s) : FillR s b X w w' := ⟨h.size, fun hc _ hr => h.row hr hc, fun h0 => h.row h0 hb, fun ⟨u0, u1, u2, h0⟩ => ⟨u0, u1, u2, h.row h0 hb⟩⟩
theorem FillR.but {n0 : Nat} (h : FillR s b X w w') (_hn : n0 ≤ b) {w0 : World} (h0 : RowsBut s w0 w) (hz : w0.heap.size ≤ b) : RowsBut s w0 w' := ⟨Nat.le_trans h0.size h.size, fun hne hr => h.row hne (by have := hr.lt; omega) (h0.row hne hr)⟩
theorem looseUponR_has {φ φ' : Value → World → Prop} {f : FuncId} {args : Array Value} (hφ : Hid (∀ u w, φ u w → φ' u w)) (h : Calls Try.prog f args w (fun e w'' => ∃ v, e = .returned v ∧ FillR s b X w w'' ∧ φ v w'')) :
    looseUpon Try.prog (FillR s b X) w φ' (.ok (.enter f args) w) := ⟨FillR1.to .refl, h.mono fun _ _ ⟨v, he, hk, hv⟩ => ⟨v, he, hk, hφ.out _ _ hv⟩⟩
theorem fillR1_put {u0 u1 u2 x0 x1 x2 : Value} (h : Row w b 39 #[u0, u1, u2]) :
    Row (((w.setCell ⟨b, 0, none⟩ x0).setCell ⟨b, 1, none⟩ x1).setCell ⟨b, 2, none⟩ x2) b 39 #[x0, x1, x2] ∧ FillR1 b #[x0, x1, x2] w (((w.setCell ⟨b, 0, none⟩ x0).setCell ⟨b, 1, none⟩ x1).setCell ⟨b, 2, none⟩ x2) := by
  obtain ⟨p1, p2⟩ := ref_put h x0 x1 x2
  exact ⟨p1, p2, fun _ => p1, fun _ => ⟨_, _, _, p1⟩⟩
end
theorem does_end' {P : World → List Nat → List Nat → Prop} {s most : Nat} {k x : Int} {most' : Nat} {L M L' M' La Ma Lb Mb : List Nat} {w w1 : World} {x0 x1 x2 : Value} (hk : RowsBut s w w1) (hP1 : P w1 La Ma) (hg : RefAt w1 (.agg #[x0, x1, x2]) most' Lb Mb)
    (hr : Row w1 (w.heap.size + 1 + 1) 39 #[x0, x1, x2]) {b : Bool} (e1 : spAct k x most L M = (La, Ma)) (e2 : spAct k x most' L' M' = (Lb, Mb)) (hb : most = most' → L = L' → b = true)
    {t : Array Value} (h6 : t.getD 6 undef = .pointer (some ⟨w.heap.size + 1 + 1, 0, none⟩)) (h7 : t.getD 7 undef = .bool b) :
    bodyPost Try.prog Try.f18 (DoesPost P s most k x most' L M L' M' w) Exit.ret { tmps := t, defers := [] } w1 := by
  refine does_door _ _ _ _ _ _ _ h6 h7 hr _ ⟨_, _, rfl, ?_, ?_, hk, hb⟩
  · rw [e2]
    exact hg
  · rw [e1]
    exact hP1
set_option maxRecDepth 100000 in
set_option maxHeartbeats 4000000 in
theorem does_any {P : World → List Nat → List Nat → Prop} {n0 s most : Nat} (hP : SpSense n0 P s most) (w : World) (L M : List Nat) (h : P w L M) (g : Value) (most' : Nat) (L' M' : List Nat) (hg : RefAt w g most' L' M') (h0 : L'.getD 0 0 = 0 ∧ L'.getD 1 0 = 0) (hl : L'.length ≤ 100000)
    (k x : Int) (hx : -9223372036854775808 ≤ x ∧ x ≤ 9223372036854775807) : Calls Try.prog 18 #[.pointer (some ⟨s, 0, none⟩), g, .agg #[.int .i64 k, .int .i64 x]] w (DoesPost P s most k x most' L M L' M' w) := by
  have HH := Lib.hid (And.intro hg (And.intro h (And.intro h0 (And.intro hl hx))))
  have HS := Lib.hid (hP.size h)
  obtain ⟨A, c, B, d, rfl, hA, hB⟩ := hg.e
  clear hA hB hg h h0 hl hx
  by_cases k1 : k = 1
  · subst k1
    go_enter Try.func18, Try.ntmps18
    go_wp2_with fail
    obtain ⟨W0, hW0⟩ : ∃ W', ((w.alloc (.cells #[.int .i64 (most' : Int), .slice A L'.length c, .slice B M'.length d] 39)).alloc (.cells #[.int .i64 1, .int .i64 x] 44)).alloc (.cells #[.int .i64 0, .slice none 0 0, .slice none 0 0] 39) = W' := ⟨_, rfl⟩
    have r1 : Row W0 w.heap.size 39 #[.int .i64 (most' : Int), .slice A L'.length c, .slice B M'.length d] := by rw [← hW0]; exact ((Row.new _ _ _).alloc _).alloc _
    have r2 : Row W0 (w.heap.size + 1) 44 #[.int .i64 1, .int .i64 x] := by
      rw [← hW0]
      have := (Row.new (w.alloc (.cells #[.int .i64 (most' : Int), .slice A L'.length c, .slice B M'.length d] 39)) 44 #[.int .i64 1, .int .i64 x]).alloc (.cells #[.int .i64 0, .slice none 0 0, .slice none 0 0] 39)
      rwa [World.size_alloc] at this
    have r3 : Row W0 (w.heap.size + 1 + 1) 39 #[.int .i64 0, .slice none 0 0, .slice none 0 0] := by
      rw [← hW0]
      have := Row.new ((w.alloc (.cells #[.int .i64 (most' : Int), .slice A L'.length c, .slice B M'.length d] 39)).alloc (.cells #[.int .i64 1, .int .i64 x] 44)) 39 #[.int .i64 0, .slice none 0 0, .slice none 0 0]
      rwa [World.size_alloc, World.size_alloc] at this
    have k0 : Keeps w W0 [] := by rw [← hW0]; exact ((Keeps.alloc _ _).then_alloc _).then_alloc _
    have s0 : W0.heap.size = w.heap.size + 3 := by rw [← hW0]; simp
    rw [hW0]
    have H0 := Lib.hid (And.intro r1 (And.intro r2 (And.intro r3 (And.intro k0 s0))))
    clear r1 r2 r3 k0 s0 hW0
    refine (hP.take (hP.keeps HH.out.2.1 H0.out.2.2.2.1)).mono ?_
    rintro e w1 ⟨rfl, h1, hap⟩
    obtain ⟨ss, hss⟩ := hP.row (hP.keeps HH.out.2.1 H0.out.2.2.2.1)
    have hne1 : w.heap.size ≠ s := fun e => by subst e; exact Nat.lt_irrefl _ (hP.row HH.out.2.1).choose_spec.lt
    have hne3 : w.heap.size + 1 + 1 ≠ s := fun e => by have := (hP.row HH.out.2.1).choose_spec.lt; omega
    have q1 := (RowsBut.of_apart hap).row hne1 H0.out.1
    have q3 := (RowsBut.of_apart hap).row hne3 H0.out.2.2.1
    have H1 := Lib.hid (And.intro h1 (And.intro q3 (And.intro ((RowsBut.of_keeps H0.out.2.2.2.1).trans (RowsBut.of_apart hap)) ((HH.out.1.keeps H0.out.2.2.2.1).rows (RowsBut.of_apart hap) hss))))
    have b0 := q1.cell 0
    have b1 := q1.cell 1
    have b2 := q1.cell 2
    simp only [List.getElem?_toArray, List.getElem?_cons_zero, List.getElem?_cons_succ] at b0 b1 b2
    clear h1 hap q1 q3 hss hne1 hne3
    go_wp2_with fail
    refine (refTake_any w1 _ most' L' M' H1.out.2.2.2 HH.out.2.2.1 HH.out.2.2.2.1).mono ?_
    rintro e w2 ⟨g', rfl, hg', hk2⟩
    obtain ⟨A', c', B', d', rfl, hA', hB'⟩ := hg'.e
    have q3 := H1.out.2.1.keeps hk2
    have f0 := fun o => (Row.alloc q3 o).cell 0
    have f1 := fun o => (Row.alloc q3 o).cell 1
    have f2 := fun o => (Row.alloc q3 o).cell 2
    have f3 := fun o => (Row.alloc q3 o).frozen 0
    have f4 := fun o => (Row.alloc q3 o).frozen 1
    have f5 := fun o => (Row.alloc q3 o).frozen 2
    simp only [List.getElem?_toArray, List.getElem?_cons_zero, List.getElem?_cons_succ] at f0 f1 f2
    have H2 := Lib.hid (And.intro hg' (And.intro (hP.keeps H1.out.1 hk2) (And.intro q3 (H1.out.2.2.1.keeps hk2))))
    clear hg' hA' hB' hk2 q3
    have HB := Lib.hid (show most = most' → L = L' → ((spTake most L).2.1 = (spTake most' L').2.1 ∧ (spTake most L).2.2 = (spTake most' L').2.2) from fun a b => by subst a b; exact ⟨rfl, rfl⟩)
    have HE1 := Lib.hid (show spAct 1 x most L M = ((spTake most L).1, M) from rfl)
    have HE2 := Lib.hid (show spAct 1 x most' L' M' = ((spTake most' L').1, M') from rfl)
    generalize spTake most L = T1 at *
    generalize spTake most' L' = T2 at *
    obtain ⟨L1, x1, y1⟩ := T1
    obtain ⟨L2, x2, y2⟩ := T2
    have HN := Lib.hid (show RowsBut s w (w2.alloc (.cells #[.int .i64 (most' : Int), .slice A' L2.length c', .slice B' M'.length d'] 39)) from H2.out.2.2.2.keeps (Keeps.alloc _ _))
    by_cases ex : x1 = x2
    · by_cases ey : (y1 : Int) = y2
      · go_wp2_with fail
        exact does_end hP HN.out HS.out (hP.keeps H2.out.2.1 (Keeps.alloc _ _)) (H2.out.1.keeps (Keeps.alloc _ _)) (H2.out.2.2.1.alloc _) HE1.out HE2.out (fun _ _ => rfl) rfl rfl
      · go_wp2_with fail
        exact does_end hP HN.out HS.out (hP.keeps H2.out.2.1 (Keeps.alloc _ _)) (H2.out.1.keeps (Keeps.alloc _ _)) (H2.out.2.2.1.alloc _) HE1.out HE2.out (fun a b => absurd (congrArg Nat.cast (HB.out a b).2) ey) rfl rfl
    · go_wp2_with fail
      exact does_end hP HN.out HS.out (hP.keeps H2.out.2.1 (Keeps.alloc _ _)) (H2.out.1.keeps (Keeps.alloc _ _)) (H2.out.2.2.1.alloc _) HE1.out HE2.out (fun a b => absurd (HB.out a b).1 ex) rfl rfl
  · by_cases k2 : k = 2
    · subst k2
      clear k1
      go_enter Try.func18, Try.ntmps18
      go_wp2_with fail
      obtain ⟨W0, hW0⟩ : ∃ W', ((w.alloc (.cells #[.int .i64 (most' : Int), .slice A L'.length c, .slice B M'.length d] 39)).alloc (.cells #[.int .i64 2, .int .i64 x] 44)).alloc (.cells #[.int .i64 0, .slice none 0 0, .slice none 0 0] 39) = W' := ⟨_, rfl⟩
      have r1 : Row W0 w.heap.size 39 #[.int .i64 (most' : Int), .slice A L'.length c, .slice B M'.length d] := by rw [← hW0]; exact ((Row.new _ _ _).alloc _).alloc _
      have r2 : Row W0 (w.heap.size + 1) 44 #[.int .i64 2, .int .i64 x] := by
        rw [← hW0]
        have := (Row.new (w.alloc (.cells #[.int .i64 (most' : Int), .slice A L'.length c, .slice B M'.length d] 39)) 44 #[.int .i64 2, .int .i64 x]).alloc (.cells #[.int .i64 0, .slice none 0 0, .slice none 0 0] 39)
        rwa [World.size_alloc] at this
      have r3 : Row W0 (w.heap.size + 1 + 1) 39 #[.int .i64 0, .slice none 0 0, .slice none 0 0] := by
        rw [← hW0]
        have := Row.new ((w.alloc (.cells #[.int .i64 (most' : Int), .slice A L'.length c, .slice B M'.length d] 39)).alloc (.cells #[.int .i64 2, .int .i64 x] 44)) 39 #[.int .i64 0, .slice none 0 0, .slice none 0 0]
        rwa [World.size_alloc, World.size_alloc] at this
      have k0 : Keeps w W0 [] := by rw [← hW0]; exact ((Keeps.alloc _ _).then_alloc _).then_alloc _
      have s0 : W0.heap.size = w.heap.size + 3 := by rw [← hW0]; simp
      rw [hW0]
      have H0 := Lib.hid (And.intro r1 (And.intro r2 (And.intro r3 (And.intro k0 s0))))
      clear r1 r2 r3 k0 s0 hW0
      refine (refGive_any W0 _ most' L' M' (HH.out.1.keeps H0.out.2.2.2.1) HH.out.2.2.1 (by have := HH.out.2.2.2.1; omega) x).mono ?_
      rintro e w1 ⟨g', rfl, hg', hk1⟩
      obtain ⟨A', c', B', d', rfl, hA', hB'⟩ := hg'.e
      have H1 := Lib.hid (And.intro hg' (And.intro (hP.keeps (hP.keeps HH.out.2.1 H0.out.2.2.2.1) hk1) (And.intro (H0.out.2.1.keeps hk1) (And.intro (H0.out.2.2.1.keeps hk1) (H0.out.2.2.2.1.then_ hk1)))))
      have HE1 := Lib.hid (show spAct 2 x most L M = ((spGive L x).1, M) from rfl)
      have HE2 := Lib.hid (show spAct 2 x most' L' M' = ((spGive L' x).1, M') from rfl)
      clear hg' hA' hB' hk1
      generalize hT2 : spGive L' x = T2 at *
      obtain ⟨L2, y2⟩ := T2
      obtain ⟨L1, y1, hT1⟩ : ∃ L1 y1, spGive L x = (L1, y1) := ⟨_, _, rfl⟩
      have HB := Lib.hid (show L = L' → y1 = y2 from fun a => by subst a; rw [hT1] at hT2; injection hT2)
      have HT := Lib.hid hT1
      clear hT1 hT2
      go_wp2_with fail
      obtain ⟨Wd, hWd⟩ : ∃ Wd, w1.alloc (.cells #[.int .i64 (most' : Int), .slice A' L2.length c', .slice B' M'.length d'] 39) = Wd := ⟨_, rfl⟩
      have kd : Keeps w1 Wd [] := by rw [← hWd]; exact Keeps.alloc _ _
      have rd : Row Wd w1.heap.size 39 #[.int .i64 (most' : Int), .slice A' L2.length c', .slice B' M'.length d'] := by rw [← hWd]; exact Row.new _ _ _
      have sz : Wd.heap.size = w1.heap.size + 1 := by rw [← hWd]; simp
      rw [hWd]
      clear hWd
      have HP := Lib.hid (hP.keeps H1.out.2.1 kd)
      obtain ⟨ss, hss⟩ := hP.row HP.out
      have hsl := (hP.row HH.out.2.1).choose_spec.lt
      have hz1 := H0.out.2.2.2.2
      have hz2 := (H1.out.2.2.2.1).lt
      have n1 : w1.heap.size ≠ s := by omega
      have n2 : w.heap.size + 1 ≠ s := by omega
      have n3 : w.heap.size + 1 + 1 ≠ s := by omega
      have rr2 := H1.out.2.2.1.keeps kd
      have rr3 := H1.out.2.2.2.1.keeps kd
      have n4 : w1.heap.size ≠ w.heap.size + 1 + 1 := by omega
      obtain ⟨X, hX⟩ : ∃ X : Array Value, #[.int .i64 (most' : Int), .slice A' L2.length c', .slice B' M'.length d'] = X := ⟨_, rfl⟩
      have MD0 := fun (W' : World) (hW : FillR s (w.heap.size + 1 + 1) X Wd W') => (hW.row n1 n4 rd).cell 0
      have MD1 := fun (W' : World) (hW : FillR s (w.heap.size + 1 + 1) X Wd W') => (hW.row n1 n4 rd).cell 1
      have MD2 := fun (W' : World) (hW : FillR s (w.heap.size + 1 + 1) X Wd W') => (hW.row n1 n4 rd).cell 2
      have MX := fun (W' : World) (hW : FillR s (w.heap.size + 1 + 1) X Wd W') => (hW.row n2 (by omega) rr2).cell 1
      simp only [List.getElem?_toArray, List.getElem?_cons_zero, List.getElem?_cons_succ] at MD0 MD1 MD2 MX
      have HX := Lib.hid hX
      have H2 := Lib.hid (And.intro hss (And.intro rr3 (And.intro n3 (And.intro (H1.out.1.keeps kd) (H1.out.2.2.2.2.then_ kd)))))
      clear hss hsl hz1 hz2 n1 n2 n3 n4 rr2 rr3 rd kd sz H0 H1 hX
      refine wp_region_tailS (FillR s (w.heap.size + 1 + 1) X) (FillR1 (w.heap.size + 1 + 1) X) 52 _ 8 (by kernel_rfl) rfl (by kernel_rfl) (fun _ _ _ h k => h.trans k) (fun _ => FillR1.refl) (fun _ _ _ h k => h.trans k) (fun _ _ h => h.to) (.of_keeps (Keeps.drew _)) ?_
      simp only [List.take_succ_cons, List.take_zero, List.drop_succ_cons, List.drop_zero]
      apply looses_is _ rfl
      · intro W vals hW hkn
        simp only [knowsS] at hkn
        try simp only [and_true] at hkn
        skip
        refine ⟨?_⟩
        simp only [fill]
        go_simp
        exact ⟨FillR1.refl, rfl⟩
      simp only [addEnt]
      apply looses_is _ rfl
      · intro W vals hW hkn
        simp only [knowsS] at hkn
        try simp only [and_true] at hkn
        skip
        refine ⟨?_⟩
        simp only [fill]
        go_simp
        exact ⟨FillR1.refl, rfl⟩
      simp only [addEnt]
      apply looses_is _ rfl
      · intro W vals hW hkn
        simp only [knowsS] at hkn
        try simp only [and_true] at hkn
        skip
        refine ⟨?_⟩
        simp only [fill]
        go_simp
        exact ⟨FillR1.refl, rfl⟩
      simp only [addEnt]
      apply looses_is _ rfl
      · intro W vals hW hkn
        simp only [knowsS] at hkn
        try simp only [and_true] at hkn
        skip
        refine ⟨?_⟩
        simp only [fill]
        go_simp
        exact ⟨FillR1.refl, rfl⟩
      simp only [addEnt]
      refine looses_at (fun v W' => v = .int .i64 (y1 : Int) ∧ P W' L1 M) rfl (fun W' vals hW hkn φ' hφ => ?_) ?_
      · simp only [knowsS] at hkn
        try simp only [and_true] at hkn
        clear hkn
        refine ⟨?_⟩
        simp only [fill]
        go_simp
        ((with_reducible refine looseUponR_has hφ ?_); refine (hP.give (hP.box HP.out (by have := HS.out; omega) H2.out.2.1 hW.k) x HH.out.2.2.2.2.1 HH.out.2.2.2.2.2).mono ?_; rw [HT.out]; rintro e w3 ⟨rfl, h, ha⟩; exact ⟨_, rfl, .of_apart ha H2.out.2.2.1, rfl, h⟩)
      simp only [addEnt]
      apply looses_is _ rfl
      · intro W vals hW hkn
        simp only [knowsS] at hkn
        try simp only [and_true] at hkn
        skip
        refine ⟨?_⟩
        simp only [fill]
        go_simp
        exact ⟨FillR1.refl, rfl⟩
      simp only [addEnt]
      refine looses_has (fun v _ => v = .bool (decide ((y1 : Int) = y2))) rfl (fun W' vals hW hkn φ' hφ => ?_) ?_
      · simp only [knowsS] at hkn
        try simp only [and_true] at hkn
        obtain ⟨W1, h0, h1, hv, _⟩ := hkn (by decide); clear hkn
        refine ⟨?_⟩
        simp only [fill]
        go_simp
        exact ⟨FillR1.refl, hφ.out _ _ rfl⟩
      simp only [addEnt]
      refine looses_has (fun _ W' => Row W' (w.heap.size + 1 + 1) 39 X) rfl (fun W' vals hW hkn φ' hφ => ?_) ?_
      · simp only [knowsS] at hkn
        try simp only [and_true] at hkn
        clear hkn; obtain ⟨u0, u1, u2, hr⟩ := hW.some ⟨_, _, _, H2.out.2.1⟩; have HR := Lib.hid hr; have f0 := hr.cell 0; have f1 := hr.cell 1; have f2 := hr.cell 2; have f3 := hr.frozen 0; have f4 := hr.frozen 1; have f5 := hr.frozen 2; simp only [List.getElem?_toArray, List.getElem?_cons_zero, List.getElem?_cons_succ] at f0 f1 f2; clear hr
        refine ⟨?_⟩
        simp only [fill]
        go_simp
        (rw [← HX.out]; exact ⟨(fillR1_put HR.out).2, hφ.out _ _ (by rw [← HX.out]; exact (fillR1_put HR.out).1)⟩)
      simp only [addEnt]
      refine looses_nil (fun W9 vals hW hkn => ?_)
      simp only [knowsAllS] at hkn
      try simp only [and_true] at hkn
      simp only [fill, Act.put, List.setIfInBounds_toArray, List.set_cons_succ, List.set_cons_zero]
      obtain ⟨⟨_, W5, h5, h6, hr5⟩, ⟨W6, h7, h8, hv6⟩, W7, h9, h10, hv7, hp7⟩ := hkn
      have h10 : FillR1 (w.heap.size + 1 + 1) X W7 W9 := by simpa [relS] using h10
      have h6 : Row W9 (w.heap.size + 1 + 1) 39 X := by
        have h6 : FillR s (w.heap.size + 1 + 1) X W5 W9 := by simpa [relS] using h6
        exact h6.fin hr5
      obtain ⟨u0, u1, u2, h9⟩ := h9.some ⟨_, _, _, H2.out.2.1⟩
      have HE := Lib.hid (And.intro (hP.box hp7 (by have := HS.out; omega) h9 h10.k) (And.intro h6 (And.intro (hW.but (n0 := n0) (by have := HS.out; omega) (.of_keeps H2.out.2.2.2.2) (by omega)) (h5.size))))
      have HZ := Lib.hid (show RefAt W9 (.agg #[.int .i64 (most' : Int), .slice A' L2.length c', .slice B' M'.length d']) most' L2 M' from by
        obtain ⟨A2, c2, B2, d2, e, hA2, hB2⟩ := H2.out.2.2.2.1.e
        injection e with e
        have e := congrArg Array.toList e
        simp only [List.cons.injEq, and_true, true_and, Value.slice.injEq] at e
        obtain ⟨⟨rfl, rfl⟩, rfl, rfl⟩ := e
        have hb3 := H2.out.2.1
        have hs3 := H2.out.1
        exact ⟨_, _, _, _, rfl, fun hp => by obtain ⟨b, o, cs, e, hr, hc⟩ := hA2 hp; exact ⟨b, o, cs, e, hW.row (Row.ne_type hr hs3 (by decide)) (Row.ne_type hr hb3 (by decide)) hr, hc⟩, fun hp => by obtain ⟨b, o, cs, e, hr, hc⟩ := hB2 hp; exact ⟨b, o, cs, e, hW.row (Row.ne_type hr hs3 (by decide)) (Row.ne_type hr hb3 (by decide)) hr, hc⟩⟩)
      clear h5 h6 hr5 h7 h8 h9 h10 hv7 hp7 hW MD0 MD1 MD2 MX
      rw [hv6]
      go_wp2_with fail
      refine does_end' HE.out.2.2.1 HE.out.1 HZ.out (by rw [HX.out]; exact HE.out.2.1) (by rw [HE1.out, HT.out]) HE2.out (b := decide ((y1 : Int) = y2)) (fun _ a => decide_eq_true (congrArg Nat.cast (HB.out a))) rfl rfl
    · by_cases k3 : k = 3
      · subst k3
        clear k1 k2
        go_enter Try.func18, Try.ntmps18
        go_wp2_with fail
        obtain ⟨W0, hW0⟩ : ∃ W', ((w.alloc (.cells #[.int .i64 (most' : Int), .slice A L'.length c, .slice B M'.length d] 39)).alloc (.cells #[.int .i64 3, .int .i64 x] 44)).alloc (.cells #[.int .i64 0, .slice none 0 0, .slice none 0 0] 39) = W' := ⟨_, rfl⟩
        have r1 : Row W0 w.heap.size 39 #[.int .i64 (most' : Int), .slice A L'.length c, .slice B M'.length d] := by rw [← hW0]; exact ((Row.new _ _ _).alloc _).alloc _
        have r2 : Row W0 (w.heap.size + 1) 44 #[.int .i64 3, .int .i64 x] := by
          rw [← hW0]
          have := (Row.new (w.alloc (.cells #[.int .i64 (most' : Int), .slice A L'.length c, .slice B M'.length d] 39)) 44 #[.int .i64 3, .int .i64 x]).alloc (.cells #[.int .i64 0, .slice none 0 0, .slice none 0 0] 39)
          rwa [World.size_alloc] at this
        have r3 : Row W0 (w.heap.size + 1 + 1) 39 #[.int .i64 0, .slice none 0 0, .slice none 0 0] := by
          rw [← hW0]
          have := Row.new ((w.alloc (.cells #[.int .i64 (most' : Int), .slice A L'.length c, .slice B M'.length d] 39)).alloc (.cells #[.int .i64 3, .int .i64 x] 44)) 39 #[.int .i64 0, .slice none 0 0, .slice none 0 0]
          rwa [World.size_alloc, World.size_alloc] at this
        have k0 : Keeps w W0 [] := by rw [← hW0]; exact ((Keeps.alloc _ _).then_alloc _).then_alloc _
        have s0 : W0.heap.size = w.heap.size + 3 := by rw [← hW0]; simp
        rw [hW0]
        have H0 := Lib.hid (And.intro r1 (And.intro r2 (And.intro r3 (And.intro k0 s0))))
        clear r1 r2 r3 k0 s0 hW0
        refine (refLasts_any W0 _ (most' : Int) L' M' (HH.out.1.keeps H0.out.2.2.2.1) HH.out.2.2.1 HH.out.2.2.2.1).mono ?_
        rintro e w1 ⟨g', rfl, hg', hk1⟩
        obtain ⟨A', c', B', d', rfl, hA', hB'⟩ := hg'.e
        have H1 := Lib.hid (And.intro hg' (And.intro (hP.keeps (hP.keeps HH.out.2.1 H0.out.2.2.2.1) hk1) (And.intro (H0.out.2.2.1.keeps hk1) (H0.out.2.2.2.1.then_ hk1))))
        clear hg' hA' hB' hk1
        go_wp2_with fail
        refine (hP.lasts H1.out.2.1).mono ?_
        rintro e w2 ⟨rfl, h2, hap⟩
        obtain ⟨ss, hss⟩ := hP.row H1.out.2.1
        have hne3 : w.heap.size + 1 + 1 ≠ s := fun e => by have := (hP.row HH.out.2.1).choose_spec.lt; omega
        have q3 := (RowsBut.of_apart hap).row hne3 H1.out.2.2.1
        have H2 := Lib.hid (And.intro h2 (And.intro q3 (And.intro ((RowsBut.of_keeps H1.out.2.2.2).trans (RowsBut.of_apart hap)) (H1.out.1.rows (RowsBut.of_apart hap) hss))))
        have f0 := q3.cell 0
        have f1 := q3.cell 1
        have f2 := q3.cell 2
        have f3 := q3.frozen 0
        have f4 := q3.frozen 1
        have f5 := q3.frozen 2
        simp only [List.getElem?_toArray, List.getElem?_cons_zero, List.getElem?_cons_succ] at f0 f1 f2
        clear h2 q3 hap hss hne3
        go_wp2_with fail
        exact does_end hP H2.out.2.2.1 HS.out H2.out.1 H2.out.2.2.2 H2.out.2.1 rfl rfl (fun _ _ => rfl) rfl rfl
      · by_cases k4 : k = 4
        · subst k4
          clear k1 k2 k3
          go_enter Try.func18, Try.ntmps18
          go_wp2_with fail
          obtain ⟨W0, hW0⟩ : ∃ W', ((w.alloc (.cells #[.int .i64 (most' : Int), .slice A L'.length c, .slice B M'.length d] 39)).alloc (.cells #[.int .i64 4, .int .i64 x] 44)).alloc (.cells #[.int .i64 0, .slice none 0 0, .slice none 0 0] 39) = W' := ⟨_, rfl⟩
          have r1 : Row W0 w.heap.size 39 #[.int .i64 (most' : Int), .slice A L'.length c, .slice B M'.length d] := by rw [← hW0]; exact ((Row.new _ _ _).alloc _).alloc _
          have r2 : Row W0 (w.heap.size + 1) 44 #[.int .i64 4, .int .i64 x] := by
            rw [← hW0]
            have := (Row.new (w.alloc (.cells #[.int .i64 (most' : Int), .slice A L'.length c, .slice B M'.length d] 39)) 44 #[.int .i64 4, .int .i64 x]).alloc (.cells #[.int .i64 0, .slice none 0 0, .slice none 0 0] 39)
            rwa [World.size_alloc] at this
          have r3 : Row W0 (w.heap.size + 1 + 1) 39 #[.int .i64 0, .slice none 0 0, .slice none 0 0] := by
            rw [← hW0]
            have := Row.new ((w.alloc (.cells #[.int .i64 (most' : Int), .slice A L'.length c, .slice B M'.length d] 39)).alloc (.cells #[.int .i64 4, .int .i64 x] 44)) 39 #[.int .i64 0, .slice none 0 0, .slice none 0 0]
            rwa [World.size_alloc, World.size_alloc] at this
          have k0 : Keeps w W0 [] := by rw [← hW0]; exact ((Keeps.alloc _ _).then_alloc _).then_alloc _
          have s0 : W0.heap.size = w.heap.size + 3 := by rw [← hW0]; simp
          rw [hW0]
          have H0 := Lib.hid (And.intro r1 (And.intro r2 (And.intro r3 (And.intro k0 s0))))
          clear r1 r2 r3 k0 s0 hW0
          refine (refUndo_any W0 _ (most' : Int) L' M' (HH.out.1.keeps H0.out.2.2.2.1)).mono ?_
          rintro e w1 ⟨g', rfl, hg', hk1⟩
          obtain ⟨A', c', B', d', rfl, hA', hB'⟩ := hg'.e
          have H1 := Lib.hid (And.intro hg' (And.intro (hP.keeps (hP.keeps HH.out.2.1 H0.out.2.2.2.1) hk1) (And.intro (H0.out.2.2.1.keeps hk1) (H0.out.2.2.2.1.then_ hk1))))
          clear hg' hA' hB' hk1
          go_wp2_with fail
          refine (hP.undo H1.out.2.1).mono ?_
          rintro e w2 ⟨rfl, h2, hap⟩
          obtain ⟨ss, hss⟩ := hP.row H1.out.2.1
          have hne3 : w.heap.size + 1 + 1 ≠ s := fun e => by have := (hP.row HH.out.2.1).choose_spec.lt; omega
          have q3 := (RowsBut.of_apart hap).row hne3 H1.out.2.2.1
          have H2 := Lib.hid (And.intro h2 (And.intro q3 (And.intro ((RowsBut.of_keeps H1.out.2.2.2).trans (RowsBut.of_apart hap)) (H1.out.1.rows (RowsBut.of_apart hap) hss))))
          have f0 := q3.cell 0
          have f1 := q3.cell 1
          have f2 := q3.cell 2
          have f3 := q3.frozen 0
          have f4 := q3.frozen 1
          have f5 := q3.frozen 2
          simp only [List.getElem?_toArray, List.getElem?_cons_zero, List.getElem?_cons_succ] at f0 f1 f2
          clear h2 q3 hap hss hne3
          go_wp2_with fail
          exact does_end hP H2.out.2.2.1 HS.out H2.out.1 H2.out.2.2.2 H2.out.2.1 rfl rfl (fun _ _ => rfl) rfl rfl
        · go_enter Try.func18, Try.ntmps18
          go_wp2_with fail
          have e1 : spAct k x most L M = (L, M) := by unfold spAct; rw [if_neg k1, if_neg k2, if_neg k3, if_neg k4]
          have e2 : spAct k x most' L' M' = (L', M') := by unfold spAct; rw [if_neg k1, if_neg k2, if_neg k3, if_neg k4]
          have kk : Keeps w (((w.alloc (.cells #[.int .i64 (most' : Int), .slice A L'.length c, .slice B M'.length d] 39)).alloc (.cells #[.int .i64 k, .int .i64 x] 44)).alloc (.cells #[.int .i64 (most' : Int), .slice A L'.length c, .slice B M'.length d] 39)) [] := ((Keeps.alloc _ _).then_alloc _).then_alloc _
          have r3 := Row.new ((w.alloc (.cells #[.int .i64 (most' : Int), .slice A L'.length c, .slice B M'.length d] 39)).alloc (.cells #[.int .i64 k, .int .i64 x] 44)) 39 #[.int .i64 (most' : Int), .slice A L'.length c, .slice B M'.length d]
          rw [World.size_alloc, World.size_alloc] at r3
          exact does_end' (.of_keeps kk) (hP.keeps HH.out.2.1 kk) (HH.out.1.keeps kk) r3 e1 e2 (fun _ _ => rfl) rfl rfl
end Go.Proofs.Ytanbdkfkkochgaa

namespace Go.Proofs.Ytanbdkfkkochgaa
open Go.RowKit Go.Maps Go.Shelf

theorem plIn_two (a b : Nat) (x y : Int) (hx : (a : Int) = x) (hy : (b : Int) = y) : plIn [y, x] = fun v => v == a || v == b := by
  subst hx hy
  funext v
  unfold plIn
  rw [Bool.eq_iff_iff]
  simp
  omega
theorem plIn_twice (a : Nat) (x : Int) (hx : (a : Int) = x) : plIn [x] = fun v => v == a || v == a := by
  subst hx
  funext v
  unfold plIn
  rw [Bool.eq_iff_iff]
  simp
  omega
abbrev HasI (k : List Int) (v : Value) (W : World) : Prop := ∃ A c B, v = .slice A k.length c ∧ OwnI W B v k
theorem HasI.keeps {k : List Int} {v : Value} {W W' : World} (h : HasI k v W) (hk : Keeps W W' []) : HasI k v W' := by
  obtain ⟨A, c, B, e, h⟩ := h
  exact ⟨A, c, B, e, OwnI.keep h hk (by simp)⟩
theorem HasI.of {k : List Int} {v : Value} {W : World} {B : Nat} (h : OwnI W B v k) : HasI k v W := by
  obtain ⟨A, c, e⟩ := OwnI.slice h
  exact ⟨A, c, B, e, h⟩
theorem refSame_has {k : List Int} {u v : Value} {W : World} (hu : HasI k u W) (hv : HasI k v W) (hl : k.length ≤ 1000000) : Calls Try.prog 36 #[u, v] W fun e w' => e = .returned (.bool true) ∧ Keeps W w' [] := by
  obtain ⟨A, c, B, rfl, h⟩ := hu
  obtain ⟨A', c', B', rfl, h'⟩ := hv
  refine (refSame_any W A A' c c' k k (OwnI.lies h) (OwnI.lies h') hl).mono ?_
  rintro e w' ⟨rfl, hk⟩
  rw [decide_eq_true rfl]
  exact ⟨rfl, hk⟩
theorem refOf_has {w : World} {g : Value} {most : Int} {L M : List Nat} (h : RefAt w g most L M) (h0 : L.getD 0 0 = 0 ∧ L.getD 1 0 = 0) (hl : L.length ≤ 100000) (a b : Nat) (x y : Int) (hx : (a : Int) = x) (hy : (b : Int) = y) (hab : a ≠ 0 ∧ b ≠ 0) {K : List Int} (hK : spSel (fun v => v == a || v == b) L = K) :
    Calls Try.prog 37 #[g, .int .i64 x, .int .i64 y] w fun e w' => ∃ v, e = .returned v ∧ Keeps w w' [] ∧ HasI K v w' := by
  subst hx hy hK
  exact (refOf_any w g most L M h h0 hl a b hab).mono fun e w' ⟨v, he, ho, hk⟩ => ⟨v, he, hk, .of ho⟩
set_option maxRecDepth 100000 in
set_option maxHeartbeats 1000000 in
theorem same_any {w0 w : World} {s most : Nat} {L M : List Nat} (h : SpIn w0 w s most L M) (g : Value) (most' : Nat) (M' : List Nat) (hg : RefAt w g most' L M') :
    Calls Try.prog 19 #[.pointer (some ⟨s, 0, none⟩), g] w fun e w' => e = .returned (.bool true) ∧ Keeps w w' [] := by
  have HI := Lib.hid h
  obtain ⟨A, c, B, d, rfl, hA, hB⟩ := hg.e
  have hok := h.ok.1
  have hle := h.ok.1.le
  have h2l := h.ok.1.l2
  have HG0 := Lib.hid (And.intro hg (And.intro (show L.getD 0 0 = 0 ∧ L.getD 1 0 = 0 from ⟨hok.z0, hok.z1⟩) (show L.length ≤ 100000 by omega)))
  clear hA hB hg h hok
  go_enter Try.func19, Try.ntmps19
  go_wp2_with fail
  obtain ⟨W0, hW0⟩ : ∃ W', w.alloc (.cells #[.int .i64 (most' : Int), .slice A L.length c, .slice B M'.length d] 39) = W' := ⟨_, rfl⟩
  have r1 : Row W0 w.heap.size 39 #[.int .i64 (most' : Int), .slice A L.length c, .slice B M'.length d] := by rw [← hW0]; exact Row.new _ _ _
  have k0 : Keeps w W0 [] := by rw [← hW0]; exact Keeps.alloc _ _
  rw [hW0]
  have H0 := Lib.hid (And.intro r1 k0)
  clear r1 k0 hW0
  go_loopw [5] (fun i wr => ∃ n : Int, i = .int .i64 n ∧ -1 ≤ n ∧ n ≤ (L.length : Int) + 1 ∧ Hid (Keeps W0 wr [])) (fun i _ => (((L.length : Int) + 1) - intOf i).toNat)
  case atStart => exact ⟨-1, rfl, by omega, by omega, Lib.hid (Keeps.refl _ _)⟩
  case round =>
    obtain ⟨n, rfl, hn1, hn2, HR⟩ := hrel
    have rr := H0.out.1.keeps HR.out
    have b0 := rr.cell 0
    have b1 := rr.cell 1
    have b2 := rr.cell 2
    simp only [List.getElem?_toArray, List.getElem?_cons_zero, List.getElem?_cons_succ] at b0 b1 b2
    have HH := Lib.hid (And.intro ((HI.out.keeps H0.out.2).keeps HR.out) rr)
    have HG := Lib.hid (And.intro ((HG0.out.1.keeps H0.out.2).keeps HR.out) HG0.out.2)
    have MB0 := fun (W' : World) (hW : Keeps wr W' []) => (rr.keeps hW).cell 0
    have MB1 := fun (W' : World) (hW : Keeps wr W' []) => (rr.keeps hW).cell 1
    have MB2 := fun (W' : World) (hW : Keeps wr W' []) => (rr.keeps hW).cell 2
    simp only [List.getElem?_toArray, List.getElem?_cons_zero, List.getElem?_cons_succ] at MB0 MB1 MB2
    clear rr
    by_cases hnl : n ≤ L.length
    · have hb1 : -9223372036854775808 ≤ n := by omega
      have hb2 : n ≤ 9223372036854775807 := by omega
      go_wp2_with fail
      refine wp_region_keeps _ (by kernel_rfl) rfl (by kernel_rfl) ?_
      apply loose_is
      · intro W vals hW hkn
        clear hkn
        refine ⟨?_⟩
        simp only [fill]
        go_simp
        first | exact ⟨Keeps.refl _ _, rfl⟩ | exact ⟨Keeps.alloc _ _, rfl⟩
      simp only [addEnt]
      apply loose_is
      · intro W vals hW hkn
        clear hkn
        refine ⟨?_⟩
        simp only [fill]
        go_simp
        first | exact ⟨Keeps.refl _ _, rfl⟩ | exact ⟨Keeps.alloc _ _, rfl⟩
      simp only [addEnt]
      apply loose_is
      · intro W vals hW hkn
        clear hkn
        refine ⟨?_⟩
        simp only [fill]
        go_simp
        refine looseUpon_calls ?_
        exact (spIs_sp (HH.out.1.keeps hW) n hb1 hb2).mono (by rintro e w' ⟨rfl, rfl⟩; exact ⟨_, rfl, Keeps.refl _ _, rfl⟩)
      simp only [addEnt]
      apply loose_is
      · intro W vals hW hkn
        clear hkn
        refine ⟨?_⟩
        simp only [fill]
        go_simp
        first | exact ⟨Keeps.refl _ _, rfl⟩ | exact ⟨Keeps.alloc _ _, rfl⟩
      simp only [addEnt]
      apply loose_is
      · intro W vals hW hkn
        clear hkn
        refine ⟨?_⟩
        simp only [fill]
        go_simp
        first | exact ⟨Keeps.refl _ _, rfl⟩ | exact ⟨Keeps.alloc _ _, rfl⟩
      simp only [addEnt]
      apply loose_is
      · intro W vals hW hkn
        clear hkn
        refine ⟨?_⟩
        simp only [fill]
        go_simp
        refine looseUpon_calls ?_
        exact (refIs_any W _ most' L M' (HG.out.1.keeps hW) HG.out.2.1 (by omega) n).mono (by rintro e w' ⟨rfl, hk⟩; exact ⟨_, rfl, hk, rfl⟩)
      simp only [addEnt]
      apply loose_is
      · intro W vals hW hkn
        clear hkn
        refine ⟨?_⟩
        simp only [fill]
        go_simp
        first | exact ⟨Keeps.refl _ _, rfl⟩ | exact ⟨Keeps.alloc _ _, rfl⟩
      simp only [addEnt]
      refine loose_nil (fun W vals hW hkn => ?_)
      simp only [knowsAll] at hkn
      try simp only [and_true] at hkn
      simp only [fill, Act.put, List.setIfInBounds_toArray, List.set_cons_succ, List.set_cons_zero]
      clear hkn MB0 MB1 MB2
      have HW := Lib.hid hW
      clear hW
      go_wp2_with fail
      exact ⟨⟨n + 1, by go_num, by omega, by omega, Lib.hid (HR.out.then_ HW.out)⟩, by simp [intOf]; omega⟩
    · have HKL := Lib.hid (show ∀ p : Nat → Bool, (spSel p L).length ≤ 1000000 from fun p => by have := spSel_length p L; omega)
      clear hn1
      go_wp2_with fail
      refine wp_region_keeps _ (by kernel_rfl) rfl (by kernel_rfl) ?_
      apply loose_is
      · intro W vals hW hkn
        clear hkn
        refine ⟨?_⟩
        simp only [fill]
        go_simp
        first | exact ⟨Keeps.refl _ _, rfl⟩ | exact ⟨Keeps.alloc _ _, rfl⟩
      simp only [addEnt]
      apply loose_is
      · intro W vals hW hkn
        clear hkn
        refine ⟨?_⟩
        simp only [fill]
        go_simp
        refine looseUpon_calls ?_
        exact (spHigh_sp (HH.out.1.keeps hW)).mono (by rintro e w' ⟨rfl, rfl⟩; exact ⟨_, rfl, Keeps.refl _ _, rfl⟩)
      simp only [addEnt]
      apply loose_is
      · intro W vals hW hkn
        clear hkn
        refine ⟨?_⟩
        simp only [fill]
        go_simp
        first | exact ⟨Keeps.refl _ _, rfl⟩ | exact ⟨Keeps.alloc _ _, rfl⟩
      simp only [addEnt]
      apply loose_is
      · intro W vals hW hkn
        clear hkn
        refine ⟨?_⟩
        simp only [fill]
        go_simp
        first | exact ⟨Keeps.refl _ _, rfl⟩ | exact ⟨Keeps.alloc _ _, rfl⟩
      simp only [addEnt]
      apply loose_is
      · intro W vals hW hkn
        clear hkn
        refine ⟨?_⟩
        simp only [fill]
        go_simp
        first | exact ⟨Keeps.refl _ _, rfl⟩ | exact ⟨Keeps.alloc _ _, rfl⟩
      simp only [addEnt]
      apply loose_is
      · intro W vals hW hkn
        clear hkn
        refine ⟨?_⟩
        simp only [fill]
        go_simp
        first | exact ⟨Keeps.refl _ _, rfl⟩ | exact ⟨Keeps.alloc _ _, rfl⟩
      simp only [addEnt]
      apply loose_is
      · intro W vals hW hkn
        clear hkn
        refine ⟨?_⟩
        simp only [fill]
        go_simp
        first | exact ⟨Keeps.refl _ _, rfl⟩ | exact ⟨Keeps.alloc _ _, rfl⟩
      simp only [addEnt]
      apply loose_is
      · intro W vals hW hkn
        clear hkn
        refine ⟨?_⟩
        simp only [fill]
        go_simp
        first | exact ⟨Keeps.refl _ _, rfl⟩ | exact ⟨Keeps.alloc _ _, rfl⟩
      simp only [addEnt]
      refine loose_has (HasI (spSel (plIn [4]) L)) (fun W vals hW hkn φ' hφ => ?_) ?_
      · simp only [knows] at hkn
        try simp only [and_true] at hkn
        clear hkn
        refine ⟨?_⟩
        simp only [fill]
        go_simp
        (with_reducible refine looseUpon_has hφ ?_; refine (spFree_sp (HH.out.1.keeps hW)).mono ?_; rintro e w2 ⟨v, rfl, ho, hk⟩; exact ⟨_, rfl, hk, .of ho⟩)
      simp only [addEnt]
      apply loose_is
      · intro W vals hW hkn
        clear hkn
        refine ⟨?_⟩
        simp only [fill]
        go_simp
        first | exact ⟨Keeps.refl _ _, rfl⟩ | exact ⟨Keeps.alloc _ _, rfl⟩
      simp only [addEnt]
      refine loose_has (HasI (spSel (plIn [4]) L)) (fun W vals hW hkn φ' hφ => ?_) ?_
      · simp only [knows] at hkn
        try simp only [and_true] at hkn
        clear hkn
        refine ⟨?_⟩
        simp only [fill]
        go_simp
        (with_reducible refine looseUpon_has hφ ?_; exact refOf_has (HG.out.1.keeps hW) HG.out.2.1 HG.out.2.2 4 4 4 4 rfl rfl (by decide) (congrArg (fun p => spSel p L) (plIn_twice 4 4 rfl).symm))
      simp only [addEnt]
      apply loose_is
      · intro W vals hW hkn
        simp only [knows] at hkn
        try simp only [and_true] at hkn
        obtain ⟨W1, _, k1, q1⟩ := hkn.1 (by decide); obtain ⟨W2, _, k2, q2⟩ := hkn.2 (by decide); clear hkn
        refine ⟨?_⟩
        simp only [fill]
        go_simp
        refine looseUpon_calls ?_
        exact (refSame_has (q2.keeps k2) (q1.keeps k1) (HKL.out _)).mono (by rintro e w' ⟨rfl, hk⟩; exact ⟨_, rfl, hk, rfl⟩)
      simp only [addEnt]
      apply loose_is
      · intro W vals hW hkn
        clear hkn
        refine ⟨?_⟩
        simp only [fill]
        go_simp
        first | exact ⟨Keeps.refl _ _, rfl⟩ | exact ⟨Keeps.alloc _ _, rfl⟩
      simp only [addEnt]
      apply loose_is
      · intro W vals hW hkn
        clear hkn
        refine ⟨?_⟩
        simp only [fill]
        go_simp
        first | exact ⟨Keeps.refl _ _, rfl⟩ | exact ⟨Keeps.alloc _ _, rfl⟩
      simp only [addEnt]
      apply loose_is
      · intro W vals hW hkn
        clear hkn
        refine ⟨?_⟩
        simp only [fill]
        go_simp
        first | exact ⟨Keeps.refl _ _, rfl⟩ | exact ⟨Keeps.alloc _ _, rfl⟩
      simp only [addEnt]
      refine loose_has (HasI (spSel (plIn [2]) L)) (fun W vals hW hkn φ' hφ => ?_) ?_
      · simp only [knows] at hkn
        try simp only [and_true] at hkn
        clear hkn
        refine ⟨?_⟩
        simp only [fill]
        go_simp
        (with_reducible refine looseUpon_has hφ ?_; refine (spNew_sp (HH.out.1.keeps hW)).mono ?_; rintro e w2 ⟨v, rfl, ho, hk⟩; exact ⟨_, rfl, hk, .of ho⟩)
      simp only [addEnt]
      apply loose_is
      · intro W vals hW hkn
        clear hkn
        refine ⟨?_⟩
        simp only [fill]
        go_simp
        first | exact ⟨Keeps.refl _ _, rfl⟩ | exact ⟨Keeps.alloc _ _, rfl⟩
      simp only [addEnt]
      refine loose_has (HasI (spSel (plIn [2]) L)) (fun W vals hW hkn φ' hφ => ?_) ?_
      · simp only [knows] at hkn
        try simp only [and_true] at hkn
        clear hkn
        refine ⟨?_⟩
        simp only [fill]
        go_simp
        (with_reducible refine looseUpon_has hφ ?_; exact refOf_has (HG.out.1.keeps hW) HG.out.2.1 HG.out.2.2 2 2 2 2 rfl rfl (by decide) (congrArg (fun p => spSel p L) (plIn_twice 2 2 rfl).symm))
      simp only [addEnt]
      apply loose_is
      · intro W vals hW hkn
        simp only [knows] at hkn
        try simp only [and_true] at hkn
        obtain ⟨W1, _, k1, q1⟩ := hkn.1 (by decide); obtain ⟨W2, _, k2, q2⟩ := hkn.2.1 (by decide); clear hkn
        refine ⟨?_⟩
        simp only [fill]
        go_simp
        refine looseUpon_calls ?_
        exact (refSame_has (q2.keeps k2) (q1.keeps k1) (HKL.out _)).mono (by rintro e w' ⟨rfl, hk⟩; exact ⟨_, rfl, hk, rfl⟩)
      simp only [addEnt]
      apply loose_is
      · intro W vals hW hkn
        clear hkn
        refine ⟨?_⟩
        simp only [fill]
        go_simp
        first | exact ⟨Keeps.refl _ _, rfl⟩ | exact ⟨Keeps.alloc _ _, rfl⟩
      simp only [addEnt]
      apply loose_is
      · intro W vals hW hkn
        clear hkn
        refine ⟨?_⟩
        simp only [fill]
        go_simp
        first | exact ⟨Keeps.refl _ _, rfl⟩ | exact ⟨Keeps.alloc _ _, rfl⟩
      simp only [addEnt]
      apply loose_is
      · intro W vals hW hkn
        clear hkn
        refine ⟨?_⟩
        simp only [fill]
        go_simp
        first | exact ⟨Keeps.refl _ _, rfl⟩ | exact ⟨Keeps.alloc _ _, rfl⟩
      simp only [addEnt]
      refine loose_has (HasI (spSel (plIn [3]) L)) (fun W vals hW hkn φ' hφ => ?_) ?_
      · simp only [knows] at hkn
        try simp only [and_true] at hkn
        clear hkn
        refine ⟨?_⟩
        simp only [fill]
        go_simp
        (with_reducible refine looseUpon_has hφ ?_; refine (spHeld_sp (HH.out.1.keeps hW)).mono ?_; rintro e w2 ⟨v, rfl, ho, hk⟩; exact ⟨_, rfl, hk, .of ho⟩)
      simp only [addEnt]
      apply loose_is
      · intro W vals hW hkn
        clear hkn
        refine ⟨?_⟩
        simp only [fill]
        go_simp
        first | exact ⟨Keeps.refl _ _, rfl⟩ | exact ⟨Keeps.alloc _ _, rfl⟩
      simp only [addEnt]
      refine loose_has (HasI (spSel (plIn [3]) L)) (fun W vals hW hkn φ' hφ => ?_) ?_
      · simp only [knows] at hkn
        try simp only [and_true] at hkn
        clear hkn
        refine ⟨?_⟩
        simp only [fill]
        go_simp
        (with_reducible refine looseUpon_has hφ ?_; exact refOf_has (HG.out.1.keeps hW) HG.out.2.1 HG.out.2.2 3 3 3 3 rfl rfl (by decide) (congrArg (fun p => spSel p L) (plIn_twice 3 3 rfl).symm))
      simp only [addEnt]
      apply loose_is
      · intro W vals hW hkn
        simp only [knows] at hkn
        try simp only [and_true] at hkn
        obtain ⟨W1, _, k1, q1⟩ := hkn.1 (by decide); obtain ⟨W2, _, k2, q2⟩ := hkn.2.1 (by decide); clear hkn
        refine ⟨?_⟩
        simp only [fill]
        go_simp
        refine looseUpon_calls ?_
        exact (refSame_has (q2.keeps k2) (q1.keeps k1) (HKL.out _)).mono (by rintro e w' ⟨rfl, hk⟩; exact ⟨_, rfl, hk, rfl⟩)
      simp only [addEnt]
      apply loose_is
      · intro W vals hW hkn
        clear hkn
        refine ⟨?_⟩
        simp only [fill]
        go_simp
        first | exact ⟨Keeps.refl _ _, rfl⟩ | exact ⟨Keeps.alloc _ _, rfl⟩
      simp only [addEnt]
      apply loose_is
      · intro W vals hW hkn
        clear hkn
        refine ⟨?_⟩
        simp only [fill]
        go_simp
        first | exact ⟨Keeps.refl _ _, rfl⟩ | exact ⟨Keeps.alloc _ _, rfl⟩
      simp only [addEnt]
      apply loose_is
      · intro W vals hW hkn
        clear hkn
        refine ⟨?_⟩
        simp only [fill]
        go_simp
        first | exact ⟨Keeps.refl _ _, rfl⟩ | exact ⟨Keeps.alloc _ _, rfl⟩
      simp only [addEnt]
      refine loose_has (HasI (spSel (plIn [4, 3]) L)) (fun W vals hW hkn φ' hφ => ?_) ?_
      · simp only [knows] at hkn
        try simp only [and_true] at hkn
        clear hkn
        refine ⟨?_⟩
        simp only [fill]
        go_simp
        (with_reducible refine looseUpon_has hφ ?_; refine (spWill_sp (HH.out.1.keeps hW)).mono ?_; rintro e w2 ⟨v, rfl, ho, hk⟩; exact ⟨_, rfl, hk, .of ho⟩)
      simp only [addEnt]
      apply loose_is
      · intro W vals hW hkn
        clear hkn
        refine ⟨?_⟩
        simp only [fill]
        go_simp
        first | exact ⟨Keeps.refl _ _, rfl⟩ | exact ⟨Keeps.alloc _ _, rfl⟩
      simp only [addEnt]
      refine loose_has (HasI (spSel (plIn [4, 3]) L)) (fun W vals hW hkn φ' hφ => ?_) ?_
      · simp only [knows] at hkn
        try simp only [and_true] at hkn
        clear hkn
        refine ⟨?_⟩
        simp only [fill]
        go_simp
        (with_reducible refine looseUpon_has hφ ?_; exact refOf_has (HG.out.1.keeps hW) HG.out.2.1 HG.out.2.2 3 4 3 4 rfl rfl (by decide) (congrArg (fun p => spSel p L) (plIn_two 3 4 3 4 rfl rfl).symm))
      simp only [addEnt]
      apply loose_is
      · intro W vals hW hkn
        simp only [knows] at hkn
        try simp only [and_true] at hkn
        obtain ⟨W1, _, k1, q1⟩ := hkn.1 (by decide); obtain ⟨W2, _, k2, q2⟩ := hkn.2.1 (by decide); clear hkn
        refine ⟨?_⟩
        simp only [fill]
        go_simp
        refine looseUpon_calls ?_
        exact (refSame_has (q2.keeps k2) (q1.keeps k1) (HKL.out _)).mono (by rintro e w' ⟨rfl, hk⟩; exact ⟨_, rfl, hk, rfl⟩)
      simp only [addEnt]
      apply loose_is
      · intro W vals hW hkn
        clear hkn
        refine ⟨?_⟩
        simp only [fill]
        go_simp
        first | exact ⟨Keeps.refl _ _, rfl⟩ | exact ⟨Keeps.alloc _ _, rfl⟩
      simp only [addEnt]
      apply loose_is
      · intro W vals hW hkn
        clear hkn
        refine ⟨?_⟩
        simp only [fill]
        go_simp
        first | exact ⟨Keeps.refl _ _, rfl⟩ | exact ⟨Keeps.alloc _ _, rfl⟩
      simp only [addEnt]
      refine loose_nil (fun W vals hW hkn => ?_)
      simp only [knowsAll] at hkn
      try simp only [and_true] at hkn
      simp only [fill, Act.put, List.setIfInBounds_toArray, List.set_cons_succ, List.set_cons_zero]
      clear hkn MB0 MB1 MB2
      have HW := Lib.hid hW
      clear hW
      go_wp2_with fail
      go_ret
      exact ⟨rfl, (H0.out.2.then_ HR.out).then_ HW.out⟩
end Go.Proofs.Ytanbdkfkkochgaa
