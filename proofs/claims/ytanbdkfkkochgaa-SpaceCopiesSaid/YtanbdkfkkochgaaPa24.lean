/- The reference of layer 7: what lies in memory; with, Is, Give, Undo. The reference of layer 7: Take. The reference of layer 7: Lasts. The reference of layer 7: Of, Same. -/
import Derived.Test.YtanbdkfkkochgaaPa22
import Derived.Test.YtanbdkfkkochgaaPa21

namespace Go.Proofs.Ytanbdkfkkochgaa
open Go.RowKit Go.Maps Go.Shelf

abbrev natV (n : Nat) : Value := .int .i64 (n : Int)
/-- A list of numbers in a block of ints. -/
def RefL (w : World) (A : Option Addr) (L : List Nat) : Prop := 0 < L.length → ∃ b o cs, A = some ⟨b, o, none⟩ ∧ Row w b 3 cs ∧ ∀ i (h : i < L.length), cs[o + i]? = some (natV L[i])
section
variable {w w' : World} {A : Option Addr} {L : List Nat}
theorem RefL.keeps (h : RefL w A L) (hk : Keeps w w' []) : RefL w' A L := fun hp => by
  obtain ⟨b, o, cs, e, hr, hc⟩ := h hp
  exact ⟨b, o, cs, e, hr.keeps hk, hc⟩
theorem RefL.apart {s : Nat} {ss : Array Value} (h : RefL w A L) (ha : Apart w w' s) (hs : Row w s 59 ss) : RefL w' A L := fun hp => by
  obtain ⟨b, o, cs, e, hr, hc⟩ := h hp
  exact ⟨b, o, cs, e, ha.row hr (Row.ne_type hr hs (by decide)), hc⟩
theorem RefL.at_ (h : RefL w A L) {k : Nat} (hk : k < L.length) : ∃ b o, A = some ⟨b, o, none⟩ ∧ b < w.heap.size ∧ w.cell? ⟨b, o + k, none⟩ = some (natV L[k]) := by
  obtain ⟨b, o, cs, e, hr, hc⟩ := h (by omega)
  exact ⟨b, o, e, hr.lt, (hr.cell _).trans (hc k hk)⟩
theorem RefL.lies (h : RefL w A L) : Lies w w.heap.size A (L.map natV) := fun hp => by
  obtain ⟨b, o, cs, e, hr, hc⟩ := h (by simpa using hp)
  refine ⟨b, o, e, hr.lt, fun i u hu => ?_⟩
  rw [hr.cell]
  have hi : i < L.length := by
    rcases Nat.lt_or_ge i L.length with h | h
    · exact h
    · rw [List.getElem?_eq_none (by simpa using h)] at hu; cases hu
  rw [hc i hi, ← hu]
  simp [hi]
theorem RefL.of_own {B c : Nat} (h : OwnL w B 3 natV (.slice A L.length c) L) : RefL w A L := fun hp => by
  rcases h.2 with ⟨hv, h0⟩ | ⟨gb, cap, cur, hv, e2, hh, h1, h2, h3, h4⟩
  · omega
  · injection hv with hv
    refine ⟨gb, 0, cur, hv, hh, fun i hi => ?_⟩
    have e := congrArg (fun l => l[i]?) h4
    simp only [Nat.mul_one, List.getElem?_take, hi, if_true, List.getElem?_map] at e
    rw [Nat.zero_add]
    rw [List.getElem?_eq_getElem hi] at e
    simpa using e
theorem OwnL.form {α : Type} {f : α → Value} {B c n : Nat} {e : TypeId} {l : List α} (h : OwnL w B e f (.slice A l.length c) l) (hp : n < l.length) : ∃ g cur, A = some ⟨g, 0, none⟩ ∧ B ≤ g ∧ Row w g e cur ∧ cur.toList.take l.length = l.map f := by
  rcases h.2 with ⟨hv, h0⟩ | ⟨gb, cap, cur, hv, e2, hh, h1, h2, h3, h4⟩
  · omega
  · injection hv with hv
    rw [Nat.mul_one] at h4
    exact ⟨gb, cur, hv, e2, hh, h4⟩
theorem cell_take {α : Type} {f : α → Value} {cur : Array Value} {l : List α} {n : Nat} (h : cur.toList.take l.length = l.map f) (hn : n < l.length) : cur[n]? = some (f l[n]) := by
  have e := congrArg (fun l => l[n]?) h
  simp only [List.getElem?_take, hn, if_true, List.getElem?_map] at e
  rw [List.getElem?_eq_getElem hn] at e
  simpa using e
/-- A reference's space. -/
structure RefAt (w : World) (g : Value) (most : Int) (L M : List Nat) : Prop where
  e : ∃ A c B d, g = .agg #[.int .i64 most, .slice A L.length c, .slice B M.length d] ∧ RefL w A L ∧ RefL w B M
theorem RefAt.keeps {g : Value} {most : Int} {M : List Nat} (h : RefAt w g most L M) (hk : Keeps w w' []) : RefAt w' g most L M := by
  obtain ⟨A, c, B, d, e, h1, h2⟩ := h.e
  exact ⟨A, c, B, d, e, h1.keeps hk, h2.keeps hk⟩
theorem RefAt.apart {g : Value} {most : Int} {M : List Nat} {s : Nat} {ss : Array Value} (h : RefAt w g most L M) (ha : Apart w w' s) (hs : Row w s 59 ss) : RefAt w' g most L M := by
  obtain ⟨A, c, B, d, e, h1, h2⟩ := h.e
  exact ⟨A, c, B, d, e, h1.apart ha hs, h2.apart ha hs⟩
end
theorem infoIntR : (Try.prog.info? 3).map (fun i => (i.zero, i.size, i.bytes)) = some (some (.int .i64 0), 1, 8) := by kernel_rfl
theorem elemInt : IntElem 24 3 := by
  obtain ⟨i0, hi, hz0, hz1, hz2⟩ := info_parts infoIntR
  exact ⟨i0, by kernel_rfl, hi, hz0, hz1, hz2⟩
theorem one_natV (x : Nat) : (natV x).oneCell' = true := rfl
set_option maxRecDepth 100000 in
theorem refIs_any (w : World) (g : Value) (most : Int) (L M : List Nat) (h : RefAt w g most L M) (h0 : L.getD 0 0 = 0 ∧ L.getD 1 0 = 0) (_hl : L.length ≤ 1000000) (x : Int) :
    Calls Try.prog 35 #[g, .int .i64 x] w fun e w' => e = .returned (.int .i64 (codeAt L x : Nat)) ∧ Keeps w w' [] := by
  obtain ⟨A, c, B, d, rfl, hA, hB⟩ := h.e
  by_cases h1 : x < 2
  · have hc : codeAt L x = 0 := by
      rcases Int.lt_or_le x 0 with h2 | h2
      · exact codeAt_out (.inl h2)
      · have : x = 0 ∨ x = 1 := by omega
        rcases this with rfl | rfl
        · exact h0.1
        · exact h0.2
    have HC := Lib.hid hc
    clear hc hA hB h0 h _hl
    go_enter Try.func35, Try.ntmps35
    go_wp2_with fail
    go_ret
    exact ⟨by rw [HC.out]; rfl, Keeps.alloc _ _⟩
  · by_cases h2 : (L.length : Int) ≤ x
    · have HC := Lib.hid (codeAt_out (L := L) (.inr h2))
      clear hA hB h0 h _hl
      go_enter Try.func35, Try.ntmps35
      go_wp2_with fail
      go_ret
      exact ⟨by rw [HC.out]; rfl, Keeps.alloc _ _⟩
    · obtain ⟨n, rfl⟩ : ∃ n : Nat, x = n := ⟨x.toNat, by omega⟩
      have hn : n < L.length := by omega
      obtain ⟨b, o, rfl, hb, hc⟩ := hA.at_ hn
      have hc' := ((Keeps.alloc w (.cells #[.int .i64 most, .slice (some ⟨b, o, none⟩) L.length c, .slice B M.length d] 39)).cell (p := ⟨b, o + n, none⟩) hb (by simp)).trans hc
      have HC := Lib.hid (show codeAt L n = L[n] by rw [codeAt_nat, List.getD_eq_getElem?_getD, List.getElem?_eq_getElem hn]; rfl)
      clear hA hB h0 h hc hb
      go_enter Try.func35, Try.ntmps35
      go_wp2_with fail
      go_ret
      refine ⟨?_, Keeps.alloc _ _⟩
      rw [HC.out]
      rfl
theorem undo_door (W : World) (t : Array Value) (b : Nat) (x0 x1 x2 : Value) (h : t.getD 2 undef = .pointer (some ⟨b, 0, none⟩)) (r : Row W b 39 #[x0, x1, x2]) (R : Ending → World → Prop) (hR : R (.returned (.agg #[x0, x1, x2])) W) :
    bodyPost Try.prog Try.f25 R Exit.ret { tmps := t, defers := [] } W := by
  have c0 := r.cell 0
  have c1 := r.cell 1
  have c2 := r.cell 2
  rw [Array.getD_eq_getD_getElem?] at h
  simp at c0 c1 c2
  refine bodyPost_ret (v := .agg #[x0, x1, x2]) ?_ rfl hR
  simp [results, Try.results25, go_sem, h, c0, c1, c2]
theorem with_door (W : World) (t : Array Value) (b : Nat) (x0 x1 x2 : Value) (h : t.getD 6 undef = .pointer (some ⟨b, 0, none⟩)) (r : Row W b 39 #[x0, x1, x2]) (R : Ending → World → Prop) (hR : R (.returned (.agg #[x0, x1, x2])) W) :
    bodyPost Try.prog Try.f46 R Exit.ret { tmps := t, defers := [] } W := by
  have c0 := r.cell 0
  have c1 := r.cell 1
  have c2 := r.cell 2
  rw [Array.getD_eq_getD_getElem?] at h
  simp at c0 c1 c2
  refine bodyPost_ret (v := .agg #[x0, x1, x2]) ?_ rfl hR
  simp [results, Try.results46, go_sem, h, c0, c1, c2]
set_option maxRecDepth 100000 in
theorem refUndo_any (w : World) (g : Value) (most : Int) (L M : List Nat) (h : RefAt w g most L M) :
    Calls Try.prog 25 #[g] w fun e w' => ∃ g', e = .returned g' ∧ RefAt w' g' most M M ∧ Keeps w w' [] := by
  obtain ⟨A, c, B, d, rfl, hA, hB⟩ := h.e
  have HH := Lib.hid hB
  clear hA hB h
  go_enter Try.func25, Try.ntmps25
  go_wp2_with fail
  have k := (Keeps.alloc w (.cells #[.int .i64 most, .slice B M.length d, .slice B M.length d] 39)).then_alloc (.cells #[.int .i64 most, .slice B M.length d, .slice B M.length d] 39)
  have r := Row.new (w.alloc (.cells #[.int .i64 most, .slice B M.length d, .slice B M.length d] 39)) 39 #[.int .i64 most, .slice B M.length d, .slice B M.length d]
  rw [World.size_alloc] at r
  exact undo_door _ _ _ _ _ _ rfl r _ ⟨_, rfl, ⟨_, _, _, _, rfl, HH.out.keeps k, HH.out.keeps k⟩, k⟩
set_option maxRecDepth 100000 in
theorem refWith_any (w : World) (g : Value) (most : Int) (L M : List Nat) (h : RefAt w g most L M) (n v : Nat) (hn : n < L.length) (hl : L.length ≤ 1000000) :
    Calls Try.prog 46 #[g, .int .i64 (n : Int), .int .i64 (v : Int)] w fun e w' => ∃ g', e = .returned g' ∧ RefAt w' g' most (L.set n v) M ∧ Keeps w w' [] := by
  obtain ⟨A, c, B, d, rfl, hA, hB⟩ := h.e
  have HH := Lib.hid (And.intro hA hB)
  clear hA hB h
  go_enter Try.func46, Try.ntmps46
  have k0 := (Keeps.alloc w (.cells #[.int .i64 most, .slice A L.length c, .slice B M.length d] 39)).then_alloc (.cells #[.int .i64 0, .slice none 0 0, .slice none 0 0] 39)
  have s0 : ((w.alloc (.cells #[.int .i64 most, .slice A L.length c, .slice B M.length d] 39)).alloc (.cells #[.int .i64 0, .slice none 0 0, .slice none 0 0] 39)).heap.size = w.heap.size + 2 := by simp
  have r1 := (Row.new w 39 #[.int .i64 most, .slice A L.length c, .slice B M.length d]).alloc (.cells #[.int .i64 0, .slice none 0 0, .slice none 0 0] 39)
  have r2 := Row.new (w.alloc (.cells #[.int .i64 most, .slice A L.length c, .slice B M.length d] 39)) 39 #[.int .i64 0, .slice none 0 0, .slice none 0 0]
  rw [World.size_alloc] at r2
  have H0 := Lib.hid (And.intro k0 (And.intro s0 (And.intro r1 r2)))
  clear k0 s0 r1 r2
  go_wp2_with (at_builtin; refine wpList_append_list rfl (Operand.const (.slice none 0 0)) (.tmp 8) elemInt one_natV rfl (w.heap.size + 2) (.slice none 0 0) A c [] L rfl rfl (OwnL.nil _ _) (RefL.lies (HH.out.1.keeps H0.out.1)) (by simp; omega) (by rw [H0.out.2.1]; exact Nat.le_refl _) ?_; intro A2 c2 w2 l2 hl2 hlen2 ho2 hk2 _; have hl3 : l2 = L := hl2.out; subst hl3; obtain ⟨g, cur, rfl, hgb, hg⟩ := ho2.form hn; have HG := Lib.hid (And.intro ho2 (And.intro hg (And.intro hgb (show Keeps _ w2 [] from hk2)))); have q1 := H0.out.2.2.1.keeps hk2; have b0 := q1.cell 0; have b1 := q1.cell 1; have b2 := q1.cell 2; have fz := q1.frozen 1; have q2 := H0.out.2.2.2.keeps hk2; have z0 := q2.frozen 0; have z1 := q2.frozen 1; have z2 := q2.frozen 2; have y0 := q2.cell 0; have y1 := q2.cell 1; have y2 := q2.cell 2; have gf := hg.1.frozen n; obtain ⟨u, hu⟩ : ∃ u, w2.cell? ⟨g, n, none⟩ = some u := ⟨_, (hg.1.cell n).trans (cell_take hg.2 hn)⟩; have n0 : g ≠ w.heap.size := (by omega); have n1 : g ≠ w.heap.size + 1 := (by omega); have n2 : w.heap.size ≠ g := (by omega); have n3 : w.heap.size + 1 ≠ g := (by omega); simp only [List.getElem?_toArray, List.getElem?_cons_zero, List.getElem?_cons_succ] at b0 b1 b2 y0 y1 y2; clear hl2 hlen2 ho2 hk2 hg q1 q2)
  have q1 := H0.out.2.2.1.keeps HG.out.2.2.2
  have q2 := H0.out.2.2.2.keeps HG.out.2.2.2
  obtain ⟨hown, ⟨hg, hcur⟩, hgb, hk⟩ := HG.out
  have q3 := ((((q2.far (p := ⟨w.heap.size, 1, none⟩) (by simp) (.slice (some ⟨g, 0, none⟩) l2.length c2)).far (p := ⟨g, n, none⟩) (by simpa using n1.symm) (natV v)).store 0 (.int .i64 most)).store 1 (.slice (some ⟨g, 0, none⟩) l2.length c2)).store 2 (.slice B M.length d)
  have g3 := ((((hg.far (p := ⟨w.heap.size, 1, none⟩) (by simpa using n0) (.slice (some ⟨g, 0, none⟩) l2.length c2)).store n (natV v)).far (p := ⟨w.heap.size + 1, 0, none⟩) (by simpa using n1) (.int .i64 most)).far (p := ⟨w.heap.size + 1, 1, none⟩) (by simpa using n1) (.slice (some ⟨g, 0, none⟩) l2.length c2)).far (p := ⟨w.heap.size + 1, 2, none⟩) (by simpa using n1) (.slice B M.length d)
  have k9 := ((((HH.out.2.keeps H0.out.1).keeps hk)))
  obtain ⟨W9, hW9⟩ : ∃ W9, (((((w2.setCell ⟨w.heap.size, 1, none⟩ (.slice (some ⟨g, 0, none⟩) l2.length c2)).setCell ⟨g, n, none⟩ (natV v)).setCell ⟨w.heap.size + 1, 0, none⟩ (.int .i64 most)).setCell ⟨w.heap.size + 1, 1, none⟩ (.slice (some ⟨g, 0, none⟩) l2.length c2)).setCell ⟨w.heap.size + 1, 2, none⟩ (.slice B M.length d)) = W9 := ⟨_, rfl⟩
  have kW : Keeps w W9 [] := by
    rw [← hW9]
    have hs := H0.out.1.size
    exact (((((H0.out.1.then_ hk).then_set _ _ (by simp)).then_set _ _ (by simp; omega)).then_set _ _ (by simp)).then_set _ _ (by simp)).then_set _ _ (by simp)
  rw [hW9] at q3 g3 ⊢
  refine with_door _ _ (w.heap.size + 1) _ _ _ rfl q3 _ ⟨_, rfl, ⟨_, _, _, _, by rw [List.length_set], fun hp => ⟨g, 0, _, rfl, g3, fun i hi => ?_⟩, HH.out.2.keeps kW⟩, kW⟩
  rw [List.length_set] at hi
  have hci := cell_take hcur hi
  have hsz : i < cur.size := (Array.getElem?_eq_some_iff.1 hci).1
  rw [Nat.zero_add, Array.getElem?_setIfInBounds, List.getElem_set]
  by_cases hni : n = i
  · subst hni
    rw [if_pos rfl, if_pos hsz, if_pos rfl]
  · rw [if_neg hni, if_neg hni, hci]
theorem codeAt_some {L : List Nat} {x : Int} (h : codeAt L x ≠ 0) : ∃ n : Nat, x = n ∧ n < L.length := by
  rcases Int.lt_or_le x 0 with hx | hx
  · exact absurd (codeAt_out (.inl hx)) h
  · rcases Int.lt_or_le x L.length with h1 | h1
    · exact ⟨x.toNat, by omega, by omega⟩
    · exact absurd (codeAt_out (.inr h1)) h
theorem give_door (W : World) (t : Array Value) (b : Nat) (x0 x1 x2 y : Value) (h : t.getD 4 undef = .pointer (some ⟨b, 0, none⟩)) (h5 : t.getD 5 undef = y) (r : Row W b 39 #[x0, x1, x2]) (R : Ending → World → Prop) (hR : R (.returned (.tuple #[.agg #[x0, x1, x2], y])) W) :
    bodyPost Try.prog Try.f33 R Exit.ret { tmps := t, defers := [] } W := by
  have c0 := r.cell 0
  have c1 := r.cell 1
  have c2 := r.cell 2
  rw [Array.getD_eq_getD_getElem?] at h h5
  simp at c0 c1 c2
  refine bodyPost_ret (v := .tuple #[.agg #[x0, x1, x2], y]) ?_ rfl hR
  simp [results, Try.results33, go_sem, h, h5, c0, c1, c2]
theorem ref_put {W : World} {b : Nat} {y0 y1 y2 : Value} (h : Row W b 39 #[y0, y1, y2]) (x0 x1 x2 : Value) :
    Row (((W.setCell ⟨b, 0, none⟩ x0).setCell ⟨b, 1, none⟩ x1).setCell ⟨b, 2, none⟩ x2) b 39 #[x0, x1, x2] ∧ Keeps W (((W.setCell ⟨b, 0, none⟩ x0).setCell ⟨b, 1, none⟩ x1).setCell ⟨b, 2, none⟩ x2) [b] :=
  ⟨((h.store 0 x0).store 1 x1).store 2 x2, ((Keeps.setCell _ _ _).trans (Keeps.setCell _ _ _) (by simp)).trans (Keeps.setCell _ _ _) (by simp)⟩
set_option maxRecDepth 100000 in
set_option maxHeartbeats 1000000 in
theorem refGive_any (w : World) (g : Value) (most : Int) (L M : List Nat) (h : RefAt w g most L M) (h0 : L.getD 0 0 = 0 ∧ L.getD 1 0 = 0) (hl : L.length ≤ 1000000) (x : Int) :
    Calls Try.prog 33 #[g, .int .i64 x] w fun e w' => ∃ g', e = .returned (.tuple #[g', .int .i64 ((spGive L x).2 : Nat)]) ∧ RefAt w' g' most (spGive L x).1 M ∧ Keeps w w' [] := by
  obtain ⟨A, c, B, d, rfl, hA, hB⟩ := h.e
  have HH := Lib.hid h
  have HL := Lib.hid (And.intro h0 hl)
  clear hA hB h h0 hl
  go_enter Try.func33, Try.ntmps33
  go_wp2_with fail
  obtain ⟨W0, hW0⟩ : ∃ W', (w.alloc (.cells #[.int .i64 most, .slice A L.length c, .slice B M.length d] 39)).alloc (.cells #[.int .i64 0, .slice none 0 0, .slice none 0 0] 39) = W' := ⟨_, rfl⟩
  have r1 : Row W0 w.heap.size 39 #[.int .i64 most, .slice A L.length c, .slice B M.length d] := by rw [← hW0]; exact (Row.new _ _ _).alloc _
  have r2 : Row W0 (w.heap.size + 1) 39 #[.int .i64 0, .slice none 0 0, .slice none 0 0] := by
    rw [← hW0]
    have := Row.new (w.alloc (.cells #[.int .i64 most, .slice A L.length c, .slice B M.length d] 39)) 39 #[.int .i64 0, .slice none 0 0, .slice none 0 0]
    rwa [World.size_alloc] at this
  have k0 : Keeps w W0 [] := by rw [← hW0]; exact (Keeps.alloc _ _).then_alloc _
  have s0 : W0.heap.size = w.heap.size + 2 := by rw [← hW0]; simp
  rw [hW0]
  clear hW0
  have H0 := Lib.hid (And.intro r1 (And.intro r2 (And.intro k0 s0)))
  clear r1 r2 k0 s0
  refine (refIs_any W0 _ most L M (HH.out.keeps H0.out.2.2.1) HL.out.1 HL.out.2 x).mono ?_
  rintro e w1 ⟨rfl, hk1⟩
  have H1 := Lib.hid hk1
  have q1 := H0.out.1.keeps hk1
  have b0 := q1.cell 0
  have b1 := q1.cell 1
  have b2 := q1.cell 2
  simp only [List.getElem?_toArray, List.getElem?_cons_zero, List.getElem?_cons_succ] at b0 b1 b2
  clear hk1 q1
  by_cases e1 : codeAt L x = 1
  · obtain ⟨n, rfl, hn⟩ := codeAt_some (L := L) (x := x) (by omega)
    have HG := Lib.hid (show spGive L n = (L.set n 3, 0) by unfold spGive; rw [if_neg (by omega), if_pos e1, Int.toNat_natCast])
    rw [e1]
    clear e1
    go_wp2_with fail
    refine (refWith_any w1 _ most L M ((HH.out.keeps H0.out.2.2.1).keeps H1.out) n 3 hn HL.out.2).mono ?_
    rintro e w2 ⟨g', rfl, hg', hk2⟩
    obtain ⟨A', c', B', d', rfl, hA', hB'⟩ := hg'.e
    rw [List.length_set]
    have q2 := (H0.out.2.1.keeps H1.out).keeps hk2
    have H2 := Lib.hid (And.intro hA' (And.intro hB' (And.intro hk2 q2)))
    have f0 := q2.cell 0
    have f1 := q2.cell 1
    have f2 := q2.cell 2
    simp only [List.getElem?_toArray, List.getElem?_cons_zero, List.getElem?_cons_succ] at f0 f1 f2
    have z0 := q2.frozen 0
    have z1 := q2.frozen 1
    have z2 := q2.frozen 2
    clear hg' hA' hB' hk2 q2
    go_wp2_with fail
    obtain ⟨p1, p2⟩ := ref_put H2.out.2.2.2 (.int .i64 most) (.slice A' L.length c') (.slice B' M.length d')
    have kk := (H0.out.2.2.1.then_ H1.out).then_ H2.out.2.2.1
    have kw : Keeps w _ [] := kk.trans p2 (fun y hy hlt => by simp at hy; omega)
    have kw2 := H0.out.2.2.2
    refine give_door _ _ (w.heap.size + 1) _ _ _ _ rfl rfl p1 _ ⟨_, by rw [HG.out]; rfl, ?_, kw⟩
    rw [HG.out]
    exact ⟨_, _, _, _, by rw [List.length_set], fun hp => by obtain ⟨b, o, cs, e, hr, hc⟩ := H2.out.1 hp; exact ⟨b, o, cs, e, hr.keep p2 (by have := Row.ne_type hr H2.out.2.2.2 (by decide); simpa using this), hc⟩, fun hp => by obtain ⟨b, o, cs, e, hr, hc⟩ := H2.out.2.1 hp; exact ⟨b, o, cs, e, hr.keep p2 (by have := Row.ne_type hr H2.out.2.2.2 (by decide); simpa using this), hc⟩⟩
  · by_cases e2 : codeAt L x = 2
    · obtain ⟨n, rfl, hn⟩ := codeAt_some (L := L) (x := x) (by omega)
      have HG := Lib.hid (show spGive L n = (L.set n 4, 0) by unfold spGive; rw [if_pos e2, Int.toNat_natCast])
      rw [e2]
      clear e1 e2
      go_wp2_with fail
      refine (refWith_any w1 _ most L M ((HH.out.keeps H0.out.2.2.1).keeps H1.out) n 4 hn HL.out.2).mono ?_
      rintro e w2 ⟨g', rfl, hg', hk2⟩
      obtain ⟨A', c', B', d', rfl, hA', hB'⟩ := hg'.e
      rw [List.length_set]
      have q2 := (H0.out.2.1.keeps H1.out).keeps hk2
      have H2 := Lib.hid (And.intro hA' (And.intro hB' (And.intro hk2 q2)))
      have f0 := q2.cell 0
      have f1 := q2.cell 1
      have f2 := q2.cell 2
      simp only [List.getElem?_toArray, List.getElem?_cons_zero, List.getElem?_cons_succ] at f0 f1 f2
      have z0 := q2.frozen 0
      have z1 := q2.frozen 1
      have z2 := q2.frozen 2
      clear hg' hA' hB' hk2 q2
      go_wp2_with fail
      obtain ⟨p1, p2⟩ := ref_put H2.out.2.2.2 (.int .i64 most) (.slice A' L.length c') (.slice B' M.length d')
      have kk := (H0.out.2.2.1.then_ H1.out).then_ H2.out.2.2.1
      have kw : Keeps w _ [] := kk.trans p2 (fun y hy hlt => by simp at hy; omega)
      have kw2 := H0.out.2.2.2
      refine give_door _ _ (w.heap.size + 1) _ _ _ _ rfl rfl p1 _ ⟨_, by rw [HG.out]; rfl, ?_, kw⟩
      rw [HG.out]
      exact ⟨_, _, _, _, by rw [List.length_set], fun hp => by obtain ⟨b, o, cs, e, hr, hc⟩ := H2.out.1 hp; exact ⟨b, o, cs, e, hr.keep p2 (by have := Row.ne_type hr H2.out.2.2.2 (by decide); simpa using this), hc⟩, fun hp => by obtain ⟨b, o, cs, e, hr, hc⟩ := H2.out.2.1 hp; exact ⟨b, o, cs, e, hr.keep p2 (by have := Row.ne_type hr H2.out.2.2.2 (by decide); simpa using this), hc⟩⟩
    · have HG := Lib.hid (show spGive L x = (L, 171) by unfold spGive; rw [if_neg e2, if_neg e1])
      have q2 := H0.out.2.1.keeps H1.out
      have f1 : ¬ ((codeAt L x : Nat) : Int) = 1 := by omega
      have f2 : ¬ ((codeAt L x : Nat) : Int) = 2 := by omega
      have f0 := q2.cell 0
      have f1 := q2.cell 1
      have f2 := q2.cell 2
      simp only [List.getElem?_toArray, List.getElem?_cons_zero, List.getElem?_cons_succ] at f0 f1 f2
      have z0 := q2.frozen 0
      have z1 := q2.frozen 1
      have z2 := q2.frozen 2
      clear q2
      go_wp2_with fail
      obtain ⟨p1, p2⟩ := ref_put (H0.out.2.1.keeps H1.out) (.int .i64 most) (.slice A L.length c) (.slice B M.length d)
      have kk := H0.out.2.2.1.then_ H1.out
      have kw : Keeps w _ [] := kk.trans p2 (fun y hy hlt => by simp at hy; omega)
      have q2 := H0.out.2.1.keeps H1.out
      refine give_door _ _ (w.heap.size + 1) _ _ _ _ rfl rfl p1 _ ⟨_, by rw [HG.out]; rfl, ?_, kw⟩
      rw [HG.out]
      obtain ⟨A1, c1, B1, d1, e, hA, hB⟩ := ((HH.out.keeps H0.out.2.2.1).keeps H1.out).e
      injection e with e
      have e := congrArg Array.toList e
      simp only [List.cons.injEq, and_true, true_and, Value.slice.injEq] at e
      obtain ⟨⟨rfl, rfl⟩, rfl, rfl⟩ := e
      exact ⟨_, _, _, _, rfl, fun hp => by obtain ⟨b, o, cs, e, hr, hc⟩ := hA hp; exact ⟨b, o, cs, e, hr.keep p2 (by have := Row.ne_type hr q2 (by decide); simpa using this), hc⟩, fun hp => by obtain ⟨b, o, cs, e, hr, hc⟩ := hB hp; exact ⟨b, o, cs, e, hr.keep p2 (by have := Row.ne_type hr q2 (by decide); simpa using this), hc⟩⟩
end Go.Proofs.Ytanbdkfkkochgaa

namespace Go.Proofs.Ytanbdkfkkochgaa
open Go.RowKit Go.Maps Go.Shelf

theorem spTake_first {most : Nat} {L : List Nat} {n : Nat} (_hn : n < L.length) (h4 : L.getD n 0 = 4) (hlt : ∀ m, m < n → L.getD m 0 ≠ 4) : spTake most L = (L.set n 2, (n : Int), 0) := by
  have hm : (n : Int) ∈ spSel (fun v => v == 4) L := (spSel_mem (by rfl)).2 (by rw [codeAt_nat, h4]; rfl)
  have hlo : ∀ x ∈ spSel (fun v => v == 4) L, (n : Int) ≤ x := fun x hx => by
    have h1 := spSel_in hx
    obtain ⟨k, rfl⟩ : ∃ k : Nat, x = k := ⟨x.toNat, by omega⟩
    rcases Nat.lt_or_ge k n with h2 | h2
    · have := hlt k h2
      have h3 := h1.2.2
      rw [codeAt_nat] at h3
      simp at h3
      exact absurd h3 this
    · omega
  cases hs : spSel (fun v => v == 4) L with
  | nil => rw [hs] at hm; simp at hm
  | cons x r =>
    rw [hs] at hm hlo
    have h1 := hlo x (by simp)
    have h2 : x ≤ n := by
      rcases List.mem_cons.1 hm with e | h
      · omega
      · have hso := spSel_sorted (fun v => v == 4) L
        rw [hs] at hso
        have := (List.pairwise_cons.1 hso).1 _ h
        omega
    obtain rfl : x = n := by omega
    unfold spTake
    rw [hs]
    rfl
theorem zeros4 {L : List Nat} (h : L.getD 0 0 = 0 ∧ L.getD 1 0 = 0) : ∀ m, m < 2 → L.getD m 0 ≠ 4
  | 0, _ => by rw [h.1]; decide
  | 1, _ => by rw [h.2]; decide
theorem spTake_full {most : Nat} {L : List Nat} (h : ∀ m, m < L.length → L.getD m 0 ≠ 4) : spTake most L = if most ≤ L.length then (L, 0, 170) else (L ++ [2], (L.length : Int), 0) := by
  have e : spSel (fun v => v == 4) L = [] := by
    cases hs : spSel (fun v => v == 4) L with
    | nil => rfl
    | cons x r =>
      have hx := spSel_in (p := fun v => v == 4) (L := L) (x := x) (by rw [hs]; simp)
      obtain ⟨k, rfl⟩ : ∃ k : Nat, x = k := ⟨x.toNat, by omega⟩
      have h3 := hx.2.2
      rw [codeAt_nat] at h3
      simp at h3
      exact absurd h3 (h k (by omega))
  unfold spTake
  rw [e]
theorem take_door3 (W : World) (t : Array Value) (b : Nat) (x0 x1 x2 y z : Value) (h : t.getD 2 undef = .pointer (some ⟨b, 0, none⟩)) (h3 : t.getD 3 undef = y) (h4 : t.getD 4 undef = z) (r : Row W b 39 #[x0, x1, x2]) (R : Ending → World → Prop) (hR : R (.returned (.tuple #[.agg #[x0, x1, x2], y, z])) W) :
    bodyPost Try.prog Try.f32 R Exit.ret { tmps := t, defers := [] } W := by
  have c0 := r.cell 0
  have c1 := r.cell 1
  have c2 := r.cell 2
  rw [Array.getD_eq_getD_getElem?] at h h3 h4
  simp at c0 c1 c2
  refine bodyPost_ret (v := .tuple #[.agg #[x0, x1, x2], y, z]) ?_ rfl hR
  simp [results, Try.results32, go_sem, h, h3, h4, c0, c1, c2]
/-- What a list of ints reads as behind stores into boxes of spaces. -/
theorem RefL.box {W W' : World} {A : Option Addr} {L : List Nat} {S : List Nat} (h : RefL W A L) (hk : Keeps W W' S) (hS : ∀ x ∈ S, ∃ cs, Row W x 39 cs) : RefL W' A L := fun hp => by
  obtain ⟨b, o, cs, e, hr, hc⟩ := h hp
  exact ⟨b, o, cs, e, hr.keep hk (fun hm => by obtain ⟨cs', hx⟩ := hS _ hm; exact Row.ne_type hr hx (by decide) rfl), hc⟩
theorem RefAt.box {W W' : World} {g : Value} {most : Int} {L M : List Nat} {S : List Nat} (h : RefAt W g most L M) (hk : Keeps W W' S) (hS : ∀ x ∈ S, ∃ cs, Row W x 39 cs) : RefAt W' g most L M := by
  obtain ⟨A, c, B, d, e, h1, h2⟩ := h.e
  exact ⟨A, c, B, d, e, h1.box hk hS, h2.box hk hS⟩
set_option maxRecDepth 100000 in
set_option maxHeartbeats 4000000 in
theorem refTake_any (w : World) (g : Value) (most : Nat) (L M : List Nat) (h : RefAt w g most L M) (h0 : L.getD 0 0 = 0 ∧ L.getD 1 0 = 0) (hl : L.length ≤ 100000) :
    Calls Try.prog 32 #[g] w fun e w' => ∃ g', e = .returned (.tuple #[g', .int .i64 (spTake most L).2.1, .int .i64 ((spTake most L).2.2 : Nat)]) ∧ RefAt w' g' most (spTake most L).1 M ∧ Keeps w w' [] := by
  obtain ⟨A, c, B, d, rfl, hA, hB⟩ := h.e
  have HH := Lib.hid h
  have HL := Lib.hid (And.intro hA (And.intro hB h0))
  clear hA hB h h0
  go_enter Try.func32, Try.ntmps32
  go_wp2_with fail
  obtain ⟨W0, hW0⟩ : ∃ W', (w.alloc (.cells #[.int .i64 (most : Nat), .slice A L.length c, .slice B M.length d] 39)).alloc (.cells #[.int .i64 0, .slice none 0 0, .slice none 0 0] 39) = W' := ⟨_, rfl⟩
  have r1 : Row W0 w.heap.size 39 #[.int .i64 (most : Nat), .slice A L.length c, .slice B M.length d] := by rw [← hW0]; exact (Row.new _ _ _).alloc _
  have r2 : Row W0 (w.heap.size + 1) 39 #[.int .i64 0, .slice none 0 0, .slice none 0 0] := by
    rw [← hW0]
    have := Row.new (w.alloc (.cells #[.int .i64 (most : Nat), .slice A L.length c, .slice B M.length d] 39)) 39 #[.int .i64 0, .slice none 0 0, .slice none 0 0]
    rwa [World.size_alloc] at this
  have k0 : Keeps w W0 [] := by rw [← hW0]; exact (Keeps.alloc _ _).then_alloc _
  have s0 : W0.heap.size = w.heap.size + 2 := by rw [← hW0]; simp
  rw [hW0]
  clear hW0
  have H0 := Lib.hid (And.intro r1 (And.intro r2 (And.intro k0 s0)))
  have b0 := r1.cell 0
  have b1 := r1.cell 1
  have b2 := r1.cell 2
  simp only [List.getElem?_toArray, List.getElem?_cons_zero, List.getElem?_cons_succ] at b0 b1 b2
  have f0 := r2.cell 0
  have f1 := r2.cell 1
  have f2 := r2.cell 2
  simp only [List.getElem?_toArray, List.getElem?_cons_zero, List.getElem?_cons_succ] at f0 f1 f2
  have y0 := r1.frozen 0
  have y1 := r1.frozen 1
  have y2 := r1.frozen 2
  have z0 := r2.frozen 0
  have z1 := r2.frozen 1
  have z2 := r2.frozen 2
  clear r1 r2 k0 s0
  go_loopw [5] (fun i wr => ∃ k : Nat, k ≤ L.length + 2 ∧ i = .int .i64 k ∧ Hid (∀ m, m < k → L.getD m 0 ≠ 4) ∧ W0 = wr) (fun i _ => L.length + 2 - (intOf i).toNat)
  case atStart => exact ⟨2, by omega, rfl, Lib.hid (zeros4 HL.out.2.2), rfl⟩
  case round =>
    obtain ⟨k, hk, rfl, HF, rfl⟩ := hrel
    by_cases hkl : k < L.length
    · obtain ⟨bl, o, rfl, hbl, hc⟩ := (HL.out.1.keeps H0.out.2.2.1).at_ hkl
      have hgd : L.getD k 0 = L[k] := by rw [List.getD_eq_getElem?_getD, List.getElem?_eq_getElem hkl]; rfl
      obtain ⟨u, hu⟩ : ∃ u, L[k] = u := ⟨_, rfl⟩
      rw [hu] at hc hgd
      have HU := Lib.hid hgd
      clear hu hgd hbl
      by_cases h4 : u = 4
      · subst h4
        have HT := Lib.hid (spTake_first (most := most) hkl HU.out HF.out)
        go_wp2_with fail
        refine (refWith_any W0 _ most L M (HH.out.keeps H0.out.2.2.1) k 2 hkl (by omega)).mono ?_
        rintro e w2 ⟨g', rfl, hg', hk2⟩
        obtain ⟨A', c', B', d', rfl, hA', hB'⟩ := hg'.e
        rw [List.length_set]
        have q2 := H0.out.2.1.keeps hk2
        have H2 := Lib.hid (And.intro hA' (And.intro hB' (And.intro hk2 q2)))
        clear f0 f1 f2 z0 z1 z2
        have f0 := q2.cell 0
        have f1 := q2.cell 1
        have f2 := q2.cell 2
        simp only [List.getElem?_toArray, List.getElem?_cons_zero, List.getElem?_cons_succ] at f0 f1 f2
        have z0 := q2.frozen 0
        have z1 := q2.frozen 1
        have z2 := q2.frozen 2
        clear hg' hA' hB' hk2 q2
        go_wp2_with fail
        obtain ⟨p1, p2⟩ := ref_put H2.out.2.2.2 (.int .i64 most) (.slice A' L.length c') (.slice B' M.length d')
        have kw : Keeps w _ [] := (H0.out.2.2.1.then_ H2.out.2.2.1).trans p2 (fun y hy hlt => by simp at hy; omega)
        refine take_door3 _ _ (w.heap.size + 1) _ _ _ _ _ rfl rfl rfl p1 _ ⟨_, by rw [HT.out]; rfl, ?_, kw⟩
        rw [HT.out]
        exact ⟨_, _, _, _, by rw [List.length_set], H2.out.1.box p2 (fun x hx => ⟨_, by obtain rfl := List.mem_singleton.1 hx; exact H2.out.2.2.2⟩), H2.out.2.1.box p2 (fun x hx => ⟨_, by obtain rfl := List.mem_singleton.1 hx; exact H2.out.2.2.2⟩)⟩
      · have hne : ¬ ((u : Nat) : Int) = 4 := by omega
        go_wp2_with fail
        exact ⟨⟨k + 1, by omega, by go_num, Lib.hid (fun m hm => by
          rcases Nat.lt_or_ge m k with h | h
          · exact HF.out m h
          · obtain rfl : m = k := by omega
            rw [HU.out]; exact h4), (by first | rfl | trivial)⟩, by simp [intOf]; omega⟩
    · have HT := Lib.hid (spTake_full (most := most) (L := L) (fun m hm => HF.out m (by omega)))
      by_cases hroom : (most : Int) ≤ L.length
      · have HR := Lib.hid (show most ≤ L.length by omega)
        go_wp2_with fail
        obtain ⟨p1, p2⟩ := ref_put H0.out.2.1 (.int .i64 most) (.slice A L.length c) (.slice B M.length d)
        have kw : Keeps w _ [] := H0.out.2.2.1.trans p2 (fun y hy hlt => by simp at hy; omega)
        have hT2 := HT.out
        rw [if_pos HR.out] at hT2
        refine take_door3 _ _ (w.heap.size + 1) _ _ _ _ _ rfl rfl rfl p1 _ ⟨_, by rw [hT2]; rfl, ?_, kw⟩
        rw [hT2]
        exact (HH.out.keeps H0.out.2.2.1).box p2 (fun x hx => ⟨_, by obtain rfl := List.mem_singleton.1 hx; exact H0.out.2.1⟩)
      · have HR := Lib.hid (show ¬ most ≤ L.length by omega)
        go_wp2_with (first
          | (at_builtin; refine wpList_append_list rfl (Operand.const (.slice none 0 0)) (.tmp 35) elemInt one_natV rfl W0.heap.size (.slice none 0 0) A c [] L rfl rfl (OwnL.nil _ _) (RefL.lies (HL.out.1.keeps H0.out.2.2.1)) (by simp; omega) (Nat.le_refl _) ?_; intro A2 c2 w2 l2 hl2 hlen2 ho2 hk2 _; have hl3 : l2 = L := hl2.out; subst hl3; have H2 := Lib.hid (And.intro ho2 (show Keeps W0 w2 [] from hk2)); clear hl2 hlen2 ho2 hk2)
          | (at_builtin; refine wpList_append_list rfl (.tmp 36) (.tmp 37) elemInt one_natV rfl W0.heap.size (.slice A2 l2.length c2) (some ⟨w2.heap.size, 0, none⟩) 1 l2 [2] rfl rfl (OwnL.keeps H2.out.1 (Keeps.alloc _ _)) (lies_one w2 3 (natV 2)) (by simp; omega) (Nat.le_trans H2.out.2.size (Keeps.alloc _ _).size) ?_; intro A3 c3 w3 l3 hl3 hlen3 ho3 hk3 _; have hk4 : Keeps W0 w3 [] := ((H2.out.2.then_ (Keeps.alloc _ _)).trans hk3 (fun y hy hlt => by have := (OwnL.far H2.out.1 y hy).1; omega)); have q1 := H0.out.1.keeps hk4; have q2 := H0.out.2.1.keeps hk4; have H3 := Lib.hid (And.intro hl3.out (And.intro ho3 (And.intro hk4 (And.intro q1 q2)))); clear b0 b1 b2 f0 f1 f2 y0 y1 y2 z0 z1 z2 hl3 ho3 hk3 hk4; have b0 := q1.cell 0; have b1 := q1.cell 1; have b2 := q1.cell 2; have f0 := q2.cell 0; have f1 := q2.cell 1; have f2 := q2.cell 2; have y0 := q1.frozen 1; have z0 := q2.frozen 0; have z1 := q2.frozen 1; have z2 := q2.frozen 2; simp only [List.getElem?_toArray, List.getElem?_cons_zero, List.getElem?_cons_succ] at b0 b1 b2 f0 f1 f2; clear q1 q2))
        have hT2 := HT.out
        rw [if_neg HR.out] at hT2
        obtain ⟨e3, o3, k3, r3, r4⟩ := H3.out
        have a1 : Keeps w3 (w3.setCell ⟨w.heap.size, 1, none⟩ (.slice A3 l3.length c3)) [w.heap.size] := Keeps.setCell _ _ _
        obtain ⟨p1, p2⟩ := ref_put (r4.keep a1 (by simp)) (.int .i64 most) (.slice A3 l3.length c3) (.slice B M.length d)
        have a2 := (a1.weaken (T := [w.heap.size, w.heap.size + 1]) (by simp)).trans p2 (by simp)
        have kw : Keeps w _ [] := (H0.out.2.2.1.then_ k3).trans a2 (fun y hy hlt => by simp at hy; omega)
        have hS : ∀ x ∈ [w.heap.size, w.heap.size + 1], ∃ cs, Row w3 x 39 cs := fun x hx => by
          simp at hx
          rcases hx with rfl | rfl
          · exact ⟨_, r3⟩
          · exact ⟨_, r4⟩
        have hRL : RefL w3 A3 (l2 ++ [2]) := by
          rw [e3] at o3
          exact RefL.of_own o3
        refine take_door3 _ _ (w.heap.size + 1) _ _ _ _ _ rfl rfl rfl p1 _ ⟨_, by rw [hT2]; rfl, ?_, kw⟩
        rw [hT2]
        exact ⟨_, _, _, _, by rw [e3], hRL.box a2 hS, ((HL.out.2.1.keeps H0.out.2.2.1).keeps k3).box a2 hS⟩
end Go.Proofs.Ytanbdkfkkochgaa

namespace Go.Proofs.Ytanbdkfkkochgaa
open Go.RowKit Go.Maps Go.Shelf

def gLast (v : Nat) : Nat := if v = 2 then 1 else if v = 3 then 4 else v
theorem spLasts_map (L : List Nat) : spLasts L = L.map gLast := rfl
def partL (k : Nat) (L : List Nat) : List Nat := (L.take k).map gLast ++ L.drop k
theorem partL_length (k : Nat) (L : List Nat) : (partL k L).length = L.length := by
  unfold partL
  rw [List.length_append, List.length_map, List.length_take, List.length_drop]
  omega
theorem partL_at {k : Nat} {L : List Nat} (hk : k < L.length) : (partL k L)[k]? = some L[k] := by
  unfold partL
  rw [List.getElem?_append_right (by simp; omega)]
  simp only [List.length_map, List.length_take, Nat.min_eq_left (Nat.le_of_lt hk), Nat.sub_self, List.getElem?_drop, Nat.add_zero]
  rw [List.getElem?_eq_getElem hk]
theorem partL_step {k : Nat} {L : List Nat} (hk : k < L.length) : (partL k L).set k (gLast L[k]) = partL (k + 1) L := by
  unfold partL
  rw [List.take_succ_eq_append_getElem hk, List.map_append, List.drop_eq_getElem_cons hk, List.set_append_right _ _ (by simp; omega)]
  rw [show k - ((L.take k).map gLast).length = 0 by simp; omega, List.set_cons_zero, List.append_assoc]
  rfl
theorem partL_same {k : Nat} {L : List Nat} (hk : k < L.length) (h : gLast L[k] = L[k]) : partL k L = partL (k + 1) L := by
  rw [← partL_step hk, h]
  refine List.ext_getElem? fun i => ?_
  rw [List.getElem?_set]
  split
  · rename_i e
    subst e
    rw [if_pos (by rw [partL_length]; exact hk), partL_at hk]
  · rfl
theorem partL_two {L : List Nat} (h : L.getD 0 0 = 0 ∧ L.getD 1 0 = 0) : partL 2 L = L := by
  have e : (L.take 2).map gLast = L.take 2 := by
    match L with
    | [] => rfl
    | [a] => obtain rfl : a = 0 := h.1; rfl
    | a :: b :: r => obtain rfl : a = 0 := h.1; obtain rfl : b = 0 := h.2; rfl
  unfold partL
  rw [e, List.take_append_drop]
theorem partL_all {k : Nat} {L : List Nat} (hk : L.length ≤ k) : partL k L = spLasts L := by
  unfold partL
  rw [List.take_of_length_le hk, List.drop_of_length_le hk, List.append_nil]
  rfl
theorem ownsRow_set {α : Type} {f : α → Value} {w : World} {B : Nat} {e : TypeId} {g c n k : Nat} {l : List α} (h : w.ownsRow B e 1 (.slice (some ⟨g, 0, none⟩) n c) n (l.map f)) (_hk : k < n) (x : α) : (w.setCell ⟨g, k, none⟩ (f x)).ownsRow B e 1 (.slice (some ⟨g, 0, none⟩) n c) n ((l.set k x).map f) := by
  refine ⟨by have := h.1; simpa using this, ?_⟩
  rcases h.2 with ⟨hv, h0⟩ | ⟨gb, cap, cur, hv, e2, hh, h1, h2, h3, h4⟩
  · cases hv
  · injection hv with hv _ hc
    injection hv with hv
    injection hv with hv
    subst hv hc
    refine .inr ⟨g, c, cur.setIfInBounds k (f x), rfl, e2, Row.store hh k (f x), h1, h2, by simpa using h3, ?_⟩
    rw [Nat.mul_one] at h4 ⊢
    rw [List.map_set, ← h4, Array.toList_setIfInBounds, List.take_set]
/-- Within the loop of Lasts. -/
structure LastAt (w wr : World) (most : Int) (L M : List Nat) (A2 : Option Addr) (c2 : Nat) (B : Option Addr) (d k : Nat) : Prop where
  r1 : Row wr w.heap.size 39 #[.int .i64 most, .slice A2 L.length c2, .slice B M.length d]
  r2 : Row wr (w.heap.size + 1) 39 #[.int .i64 0, .slice none 0 0, .slice none 0 0]
  own : wr.ownsRow (w.heap.size + 2) 3 1 (.slice A2 L.length c2) L.length ((partL k L).map natV)
  h : Keeps w wr []
theorem own_cell {w : World} {B : Nat} {e : TypeId} {A : Option Addr} {n c k : Nat} {xs : List Value} {u : Value} (h : w.ownsRow B e 1 (.slice A n c) n xs) (hx : xs[k]? = some u) : ∃ g, A = some ⟨g, 0, none⟩ ∧ B ≤ g ∧ w.cell? ⟨g, k, none⟩ = some u ∧ w.frozen? ⟨g, k, none⟩ = false := by
  have hk : k < xs.length := by
    rcases Nat.lt_or_ge k xs.length with h | h
    · exact h
    · rw [List.getElem?_eq_none h] at hx; cases hx
  rcases h.2 with ⟨hv, h0⟩ | ⟨gb, cap, cur, hv, e2, hh, h1, h2, h3, h4⟩
  · have := h.1
    omega
  · injection hv with hv _ hc
    have hr : Row w gb e cur := hh
    refine ⟨gb, hv, e2, (hr.cell k).trans ?_, hr.frozen k⟩
    have hlen := h.1
    have e := congrArg (fun l => l[k]?) h4
    have hkn : k < n * 1 := by omega
    simp only [List.getElem?_take, hkn, if_true] at e
    rw [hx] at e
    simpa using e
theorem LastAt.store {w wr : World} {most : Int} {L M : List Nat} {g c2 d k : Nat} {B : Option Addr} (h : LastAt w wr most L M (some ⟨g, 0, none⟩) c2 B d k) (hg : w.heap.size + 2 ≤ g) (hk : k < L.length) : LastAt w (wr.setCell ⟨g, k, none⟩ (natV (gLast L[k]))) most L M (some ⟨g, 0, none⟩) c2 B d (k + 1) := by
  have a1 : Keeps wr (wr.setCell ⟨g, k, none⟩ (natV (gLast L[k]))) [g] := Keeps.setCell _ _ _
  refine ⟨h.r1.keep a1 (by simp; omega), h.r2.keep a1 (by simp; omega), ?_, h.h.trans a1 (fun y hy hlt => by simp at hy; omega)⟩
  rw [← partL_step hk]
  exact ownsRow_set h.own hk _
theorem lasts_door (W : World) (t : Array Value) (b : Nat) (x0 x1 x2 : Value) (h : t.getD 2 undef = .pointer (some ⟨b, 0, none⟩)) (r : Row W b 39 #[x0, x1, x2]) (R : Ending → World → Prop) (hR : R (.returned (.agg #[x0, x1, x2])) W) :
    bodyPost Try.prog Try.f34 R Exit.ret { tmps := t, defers := [] } W := by
  have c0 := r.cell 0
  have c1 := r.cell 1
  have c2 := r.cell 2
  rw [Array.getD_eq_getD_getElem?] at h
  simp at c0 c1 c2
  refine bodyPost_ret (v := .agg #[x0, x1, x2]) ?_ rfl hR
  simp [results, Try.results34, go_sem, h, c0, c1, c2]
set_option maxRecDepth 100000 in
set_option maxHeartbeats 4000000 in
theorem refLasts_any (w : World) (g : Value) (most : Int) (L M : List Nat) (h : RefAt w g most L M) (h0 : L.getD 0 0 = 0 ∧ L.getD 1 0 = 0) (hl : L.length ≤ 100000) :
    Calls Try.prog 34 #[g] w fun e w' => ∃ g', e = .returned g' ∧ RefAt w' g' most (spLasts L) (spLasts L) ∧ Keeps w w' [] := by
  obtain ⟨A, c, B, d, rfl, hA, hB⟩ := h.e
  have HL := Lib.hid (And.intro hA (And.intro hB h0))
  clear hA hB h h0
  go_enter Try.func34, Try.ntmps34
  have k0 := (Keeps.alloc w (.cells #[.int .i64 most, .slice A L.length c, .slice B M.length d] 39)).then_alloc (.cells #[.int .i64 0, .slice none 0 0, .slice none 0 0] 39)
  have r1 := (Row.new w 39 #[.int .i64 most, .slice A L.length c, .slice B M.length d]).alloc (.cells #[.int .i64 0, .slice none 0 0, .slice none 0 0] 39)
  have r2 := Row.new (w.alloc (.cells #[.int .i64 most, .slice A L.length c, .slice B M.length d] 39)) 39 #[.int .i64 0, .slice none 0 0, .slice none 0 0]
  rw [World.size_alloc] at r2
  have s0 : ((w.alloc (.cells #[.int .i64 most, .slice A L.length c, .slice B M.length d] 39)).alloc (.cells #[.int .i64 0, .slice none 0 0, .slice none 0 0] 39)).heap.size = w.heap.size + 2 := by simp
  have H0 := Lib.hid (And.intro k0 (And.intro s0 (And.intro r1 r2)))
  clear k0 s0 r1 r2
  go_wp2_with (at_builtin; refine wpList_append_list rfl (Operand.const (.slice none 0 0)) (.tmp 5) elemInt one_natV rfl (w.heap.size + 2) (.slice none 0 0) A c [] L rfl rfl (OwnL.nil _ _) (RefL.lies (HL.out.1.keeps H0.out.1)) (by simp; omega) (by rw [H0.out.2.1]; exact Nat.le_refl _) ?_; intro A2 c2 w2 l2 hl2 hlen2 ho2 hk2 _; have hl3 : l2 = L := hl2.out; subst hl3; have q1 := H0.out.2.2.1.keeps hk2; have H2 := Lib.hid (And.intro ho2 (And.intro (H0.out.1.then_ hk2) (And.intro q1 (H0.out.2.2.2.keeps hk2)))); have b0 := q1.cell 0; have b1 := q1.cell 1; have b2 := q1.cell 2; have fz := q1.frozen 1; simp only [List.getElem?_toArray, List.getElem?_cons_zero, List.getElem?_cons_succ] at b0 b1 b2; clear hl2 hlen2 ho2 hk2 q1)
  have HS := Lib.hid (show LastAt w (w2.setCell ⟨w.heap.size, 1, none⟩ (.slice A2 l2.length c2)) most l2 M A2 c2 B d 2 from by
    obtain ⟨o2, k2, q1, q2⟩ := H2.out
    have a1 : Keeps w2 (w2.setCell ⟨w.heap.size, 1, none⟩ (.slice A2 l2.length c2)) [w.heap.size] := Keeps.setCell _ _ _
    refine ⟨q1.store 1 _, q2.keep a1 (by simp), ?_, k2.trans a1 (fun y hy hlt => by simp at hy; omega)⟩
    rw [partL_two HL.out.2.2]
    exact OwnL.keep o2 a1 (fun x hx => by simp at hx; omega))
  clear b0 b1 b2 fz
  obtain ⟨W3, hW3⟩ : ∃ W3, w2.setCell ⟨w.heap.size, 1, none⟩ (.slice A2 l2.length c2) = W3 := ⟨_, rfl⟩
  rw [hW3] at HS ⊢
  clear hW3
  go_loopw [3] (fun i wr => ∃ k : Nat, k ≤ l2.length + 2 ∧ i = .int .i64 k ∧ Hid (LastAt w wr most l2 M A2 c2 B d k)) (fun i _ => l2.length + 2 - (intOf i).toNat)
  case atStart => exact ⟨2, by omega, rfl, HS⟩
  case round =>
    obtain ⟨k, hk, rfl, HR⟩ := hrel
    have q1 := HR.out.r1
    have b0 := q1.cell 0
    have b1 := q1.cell 1
    have b2 := q1.cell 2
    simp only [List.getElem?_toArray, List.getElem?_cons_zero, List.getElem?_cons_succ] at b0 b1 b2
    clear q1
    by_cases hkl : k < l2.length
    · obtain ⟨g, rfl, hgb, hc, hf⟩ := own_cell (k := k) (u := natV l2[k]) HR.out.own (by rw [List.getElem?_map, partL_at hkl]; rfl)
      have HST := Lib.hid (HR.out.store hgb hkl)
      have n0 : g ≠ w.heap.size := by omega
      have n1 : w.heap.size ≠ g := by omega
      obtain ⟨u, hu⟩ : ∃ u, l2[k] = u := ⟨_, rfl⟩
      have HSM := Lib.hid (fun h : gLast l2[k] = l2[k] => partL_same hkl h)
      rw [hu] at hc HST HSM
      clear hu hgb
      by_cases h2 : u = 2
      · subst h2
        go_wp2_with fail
        exact ⟨⟨k + 1, by omega, by go_num, HST⟩, by simp [intOf]; omega⟩
      · have m2 : ¬ ((u : Nat) : Int) = 2 := by omega
        by_cases h3 : u = 3
        · subst h3
          clear m2
          go_wp2_with fail
          exact ⟨⟨k + 1, by omega, by go_num, HST⟩, by simp [intOf]; omega⟩
        · have m3 : ¬ ((u : Nat) : Int) = 3 := by omega
          have HP := Lib.hid (HSM.out (by unfold gLast; rw [if_neg h2, if_neg h3]))
          clear h2 h3
          go_wp2_with fail
          exact ⟨⟨k + 1, by omega, by go_num, Lib.hid ⟨HR.out.r1, HR.out.r2, by rw [← HP.out]; exact HR.out.own, HR.out.h⟩⟩, by simp [intOf]; omega⟩
    · have q1 := HR.out.r1
      have q2 := HR.out.r2
      have fy := q1.frozen 2
      have f0 := q2.cell 0
      have f1 := q2.cell 1
      have f2 := q2.cell 2
      simp only [List.getElem?_toArray, List.getElem?_cons_zero, List.getElem?_cons_succ] at f0 f1 f2
      have z0 := q2.frozen 0
      have z1 := q2.frozen 1
      have z2 := q2.frozen 2
      clear q1 q2
      go_wp2_with fail
      have a1 : Keeps wr (wr.setCell ⟨w.heap.size, 2, none⟩ (.slice A2 l2.length c2)) [w.heap.size] := Keeps.setCell _ _ _
      obtain ⟨p1, p2⟩ := ref_put (HR.out.r2.keep a1 (by simp)) (.int .i64 most) (.slice A2 l2.length c2) (.slice A2 l2.length c2)
      have a2 := (a1.weaken (T := [w.heap.size, w.heap.size + 1]) (by simp)).trans p2 (by simp)
      have kw : Keeps w _ [] := HR.out.h.trans a2 (fun y hy hlt => by simp at hy; omega)
      have hS : ∀ x ∈ [w.heap.size, w.heap.size + 1], ∃ cs, Row wr x 39 cs := fun x hx => by
        simp at hx
        rcases hx with rfl | rfl
        · exact ⟨_, HR.out.r1⟩
        · exact ⟨_, HR.out.r2⟩
      have hlen : (spLasts l2).length = l2.length := by simp [spLasts]
      have hRL : RefL wr A2 (spLasts l2) := by
        have o := HR.out.own
        rw [partL_all (by omega)] at o
        exact RefL.of_own (c := c2) (B := w.heap.size + 2) (by unfold OwnL; rw [hlen]; exact o)
      refine lasts_door _ _ (w.heap.size + 1) _ _ _ rfl p1 _ ⟨_, rfl, ⟨_, _, _, _, by rw [hlen], hRL.box a2 hS, hRL.box a2 hS⟩, kw⟩
end Go.Proofs.Ytanbdkfkkochgaa

namespace Go.Proofs.Ytanbdkfkkochgaa
open Go.RowKit Go.Maps Go.Shelf

def selUpto (p : Nat → Bool) (k : Nat) (L : List Nat) : List Int := ((List.range k).filter fun n => p (L.getD n 0)).map fun n : Nat => (n : Int)
theorem selUpto_succ (p : Nat → Bool) (k : Nat) (L : List Nat) : selUpto p (k + 1) L = selUpto p k L ++ (if p (L.getD k 0) then [(k : Int)] else []) := by
  unfold selUpto
  rw [List.range_succ, List.filter_append, List.map_append]
  congr 1
  by_cases h : p (L.getD k 0) = true
  · rw [if_pos h, List.filter_cons_of_pos (by exact h)]
    rfl
  · rw [if_neg h, List.filter_cons_of_neg (by exact h)]
    rfl
theorem selUpto_two {p : Nat → Bool} (h0 : p 0 = false) {L : List Nat} (h : L.getD 0 0 = 0 ∧ L.getD 1 0 = 0) : selUpto p 2 L = [] := by
  rw [selUpto_succ, selUpto_succ, h.1, h.2, h0]
  rfl
theorem selUpto_end {p : Nat → Bool} (h0 : p 0 = false) {L : List Nat} : ∀ {k : Nat}, L.length ≤ k → selUpto p k L = spSel p L := fun {k} hk => by
  obtain ⟨d, rfl⟩ : ∃ d, k = L.length + d := ⟨k - L.length, by omega⟩
  induction d with
  | zero => rfl
  | succ d ih =>
    rw [← Nat.add_assoc, selUpto_succ, ih (by omega), List.getD_eq_getElem?_getD, List.getElem?_eq_none (by omega)]
    simp [h0]
theorem selUpto_length (p : Nat → Bool) (k : Nat) (L : List Nat) : (selUpto p k L).length ≤ k := by
  unfold selUpto
  rw [List.length_map]
  exact Nat.le_trans (List.length_filter_le _ _) (by simp)
set_option maxRecDepth 100000 in
set_option maxHeartbeats 4000000 in
theorem refOf_any (w : World) (g : Value) (most : Int) (L M : List Nat) (h : RefAt w g most L M) (h0 : L.getD 0 0 = 0 ∧ L.getD 1 0 = 0) (hl : L.length ≤ 100000) (a b : Nat) (hab : a ≠ 0 ∧ b ≠ 0) :
    Calls Try.prog 37 #[g, .int .i64 (a : Int), .int .i64 (b : Int)] w fun e w' => ∃ v, e = .returned v ∧ OwnI w' w.heap.size v (spSel (fun v => v == a || v == b) L) ∧ Keeps w w' [] := by
  obtain ⟨A, c, B, d, rfl, hA, hB⟩ := h.e
  have HL := Lib.hid (And.intro hA (And.intro h0 hab))
  have hp0 : ((0 : Nat) == a || (0 : Nat) == b) = false := by
    obtain ⟨h1, h2⟩ := hab
    simp
    omega
  have HP0 := Lib.hid hp0
  clear hA hB h h0 hab hp0
  go_enter Try.func37, Try.ntmps37
  go_wp2_with fail
  have r0 := Row.new w 39 #[.int .i64 most, .slice A L.length c, .slice B M.length d]
  have k0 := Keeps.alloc w (.cells #[.int .i64 most, .slice A L.length c, .slice B M.length d] 39)
  obtain ⟨W0, hW0⟩ : ∃ W0, w.alloc (.cells #[.int .i64 most, .slice A L.length c, .slice B M.length d] 39) = W0 := ⟨_, rfl⟩
  rw [hW0] at r0 k0 ⊢
  have H0 := Lib.hid (And.intro r0 k0)
  clear r0 k0 hW0
  go_loopw [7, 8] (fun v i wr => ∃ (k : Nat) (A1 : Option Addr) (q1 : Nat) (out : List Int), v = .slice A1 out.length q1 ∧ i = .int .i64 k ∧ k ≤ L.length + 2 ∧ Hid (out = selUpto (fun v => v == a || v == b) k L) ∧ Hid (OwnL wr W0.heap.size 2 (Value.int .i64) (.slice A1 out.length q1) out ∧ Keeps W0 wr [])) (fun _ i _ => L.length + 2 - (intOf i).toNat)
  case atStart => exact ⟨2, none, 0, [], rfl, rfl, by omega, Lib.hid (selUpto_two HP0.out HL.out.2.1).symm, Lib.hid ⟨OwnL.nil _ _, Keeps.refl _ _⟩⟩
  case round =>
    obtain ⟨k, A1, q1, out, rfl, rfl, hk, HO, HR⟩ := hrel
    have q0 := H0.out.1.keeps HR.out.2
    have b0 := q0.cell 0
    have b1 := q0.cell 1
    have b2 := q0.cell 2
    simp only [List.getElem?_toArray, List.getElem?_cons_zero, List.getElem?_cons_succ] at b0 b1 b2
    clear q0
    by_cases hkl : k < L.length
    · obtain ⟨bl, o, rfl, hbl, hc⟩ := (HL.out.1.keeps (H0.out.2.then_ HR.out.2)).at_ hkl
      have hgd : L.getD k 0 = L[k] := by rw [List.getD_eq_getElem?_getD, List.getElem?_eq_getElem hkl]; rfl
      obtain ⟨u, hu⟩ : ∃ u, L[k] = u := ⟨_, rfl⟩
      rw [hu] at hc hgd
      have HS := Lib.hid (selUpto_succ (fun v => v == a || v == b) k L)
      rw [hgd] at HS
      have holen : out.length ≤ k := by rw [HO.out]; exact selUpto_length _ _ _
      clear hu hgd hbl
      by_cases h1 : u = a
      · have HY := Lib.hid (show (u == a || u == b) = true by simp [h1])
        subst h1
        have hsz := Nat.le_trans HR.out.2.size (Keeps.alloc wr (.cells #[.int .i64 k] 2)).size
        go_wp2_with (at_builtin; refine wpList_append_list rfl (.tmp 32) (.tmp 34) elemI64 one_i64 rfl W0.heap.size (.slice A1 out.length q1) (some ⟨wr.heap.size, 0, none⟩) 1 out [(k : Int)] rfl rfl (OwnL.keeps HR.out.1 (Keeps.alloc _ _)) (lies_one wr 2 (.int .i64 k)) (by simp; omega) hsz ?_; intro A2 q2 w3 f2 hf2 hl2 ho2 hk2 _; have H3 := Lib.hid (And.intro hf2.out (And.intro ho2 ((HR.out.2.then_ (Keeps.alloc _ _)).trans hk2 (fun y hy hlt => by have := (OwnL.far HR.out.1 y hy).1; omega)))); clear hf2 ho2 hk2)
        exact ⟨⟨k + 1, A2, q2, f2, rfl, by go_num, by omega, Lib.hid (by rw [H3.out.1, HS.out, HY.out, if_pos rfl, HO.out]), Lib.hid H3.out.2⟩, by simp [intOf]; omega⟩
      · have n1 : ((u : Int) == (a : Int)) = false := by simp; omega
        by_cases h2 : u = b
        · have HY := Lib.hid (show (u == a || u == b) = true by simp [h2])
          subst h2
          clear h1
          have hsz := Nat.le_trans HR.out.2.size (Keeps.alloc wr (.cells #[.int .i64 k] 2)).size
          go_wp2_with (at_builtin; refine wpList_append_list rfl (.tmp 32) (.tmp 34) elemI64 one_i64 rfl W0.heap.size (.slice A1 out.length q1) (some ⟨wr.heap.size, 0, none⟩) 1 out [(k : Int)] rfl rfl (OwnL.keeps HR.out.1 (Keeps.alloc _ _)) (lies_one wr 2 (.int .i64 k)) (by simp; omega) hsz ?_; intro A2 q2 w3 f2 hf2 hl2 ho2 hk2 _; have H3 := Lib.hid (And.intro hf2.out (And.intro ho2 ((HR.out.2.then_ (Keeps.alloc _ _)).trans hk2 (fun y hy hlt => by have := (OwnL.far HR.out.1 y hy).1; omega)))); clear hf2 ho2 hk2)
          exact ⟨⟨k + 1, A2, q2, f2, rfl, by go_num, by omega, Lib.hid (by rw [H3.out.1, HS.out, HY.out, if_pos rfl, HO.out]), Lib.hid H3.out.2⟩, by simp [intOf]; omega⟩
        · have n2 : ((u : Int) == (b : Int)) = false := by simp; omega
          have HY := Lib.hid (show (u == a || u == b) = false by simp [h1, h2])
          clear h1 h2
          go_wp2_with fail
          exact ⟨⟨k + 1, A1, q1, out, rfl, by go_num, by omega, Lib.hid (by rw [HS.out, HY.out, if_neg (by decide), List.append_nil]; exact HO.out), HR⟩, by simp [intOf]; omega⟩
    · have HE := Lib.hid (selUpto_end (p := fun v => v == a || v == b) (L := L) (k := k) HP0.out (by omega))
      go_wp2_with fail
      go_ret
      refine ⟨_, rfl, ?_, H0.out.2.then_ HR.out.2⟩
      rw [← HE.out, ← HO.out]
      exact OwnL.base HR.out.1 H0.out.2.size
set_option maxRecDepth 100000 in
set_option maxHeartbeats 2000000 in
theorem refSame_any (w : World) (A B : Option Addr) (c d : Nat) (l1 l2 : List Int) (h1 : Lies w w.heap.size A (l1.map (Value.int .i64))) (h2 : Lies w w.heap.size B (l2.map (Value.int .i64))) (hl : l1.length ≤ 1000000) :
    Calls Try.prog 36 #[.slice A l1.length c, .slice B l2.length d] w fun e w' => e = .returned (.bool (decide (l1 = l2))) ∧ Keeps w w' [] := by
  have HH := Lib.hid (And.intro h1 h2)
  clear h1 h2
  by_cases hlen : l1.length = l2.length
  · go_enter Try.func36, Try.ntmps36
    have hi : (l1.length : Int) ≤ 1000000 := by omega
    have hlI : (l1.length : Int) = l2.length := by omega
    go_wp2_with fail
    clear hlI
    go_loopw [5] (fun i wr => ∃ k : Nat, k ≤ l1.length ∧ i = .int .i64 k ∧ Hid (∀ m, m < k → l1[m]? = l2[m]?) ∧ Hid (Keeps w wr [])) (fun i _ => l1.length - (intOf i).toNat)
    case atStart => exact ⟨0, Nat.zero_le _, rfl, Lib.hid (fun m hm => absurd hm (by omega)), Lib.hid (Keeps.refl _ _)⟩
    case round =>
      obtain ⟨k, hk, rfl, HE, HK⟩ := hrel
      by_cases hkl : k < l1.length
      · have hkl2 : k < l2.length := by omega
        obtain ⟨b1, o1, rfl, hb1, hc1⟩ := (HH.out.1.keep HK.out (Nat.le_refl _) (by simp)).at_ (k := k) (by simpa using hkl)
        obtain ⟨b2, o2, rfl, hb2, hc2⟩ := (HH.out.2.keep HK.out (Nat.le_refl _) (by simp)).at_ (k := k) (by simpa using hkl2)
        rw [List.getElem_map] at hc1 hc2
        have hg1 := List.getElem?_eq_getElem hkl
        have hg2 := List.getElem?_eq_getElem hkl2
        obtain ⟨x1, hx1⟩ : ∃ x, l1[k] = x := ⟨_, rfl⟩
        obtain ⟨x2, hx2⟩ : ∃ x, l2[k] = x := ⟨_, rfl⟩
        rw [hx1] at hc1 hg1
        rw [hx2] at hc2 hg2
        have HG := Lib.hid (And.intro hg1 hg2)
        clear hx1 hx2 hb1 hb2 hg1 hg2
        have HLE := Lib.hid hlen
        clear hlen
        by_cases hx : x1 = x2
        · subst hx
          go_wp2_with fail
          go_region
          go_wp2_with fail
          exact ⟨⟨k + 1, by omega, by go_num, Lib.hid (fun m hm => by
            rcases Nat.lt_or_ge m k with h | h
            · exact HE.out m h
            · obtain rfl : m = k := by omega
              rw [HG.out.1, HG.out.2]), Lib.hid (HK.out.then_ (Keeps.drew _))⟩, by simp [intOf]; omega⟩
        · have hne : (x1 == x2) = false := by simpa using hx
          have hd := Lib.hid (decide_eq_false (show ¬ l1 = l2 from fun e => by
            have h1 := HG.out.1
            rw [e, HG.out.2] at h1
            exact hx (Option.some.inj h1).symm))
          clear hx
          go_wp2_with fail
          go_region
          go_wp2_with fail
          go_ret
          refine ⟨?_, HK.out.then_ (Keeps.drew _)⟩
          rw [hd.out]
          rfl
      · obtain rfl : k = l1.length := by omega
        have hd := Lib.hid (decide_eq_true (show l1 = l2 from List.ext_getElem? fun m => by
          rcases Nat.lt_or_ge m l1.length with h | h
          · exact HE.out m h
          · rw [List.getElem?_eq_none h, List.getElem?_eq_none (by omega)]))
        go_wp2_with fail
        go_ret
        refine ⟨?_, HK.out⟩
        rw [hd.out]
        rfl
  · have hd := Lib.hid (decide_eq_false (show ¬ l1 = l2 from fun e => hlen (by rw [e])))
    have hne : ¬ ((l1.length : Nat) : Int) = l2.length := by omega
    go_enter Try.func36, Try.ntmps36
    go_wp2_with fail
    go_ret
    refine ⟨?_, Keeps.refl _ _⟩
    rw [hd.out]
    rfl
end Go.Proofs.Ytanbdkfkkochgaa
