/- Walks over package meta (layer 6): Parse, where it gives up at once. Walks over package meta (layer 6): Parse, where the number and the length are right. Walks over package meta (layer 6): Parse, where the page may be a meta's. -/
import Derived.Test.YthepcoifcoinoaaPRa29
import Derived.WalkMore
import Derived.ScopeJumps

namespace Go.Proofs.Ythepcoifcoinoaa
open Go.RowKit

/-- The frame at the jump to where it gives up. -/
def MpJump (w : World) (n : Int) (V : Value) (err : Int) (a : Act) (w' : World) : Prop :=
  ∃ (x : Nat → Value) (y0 y1 y2 y3 : Value), a = { tmps := #[.int .i64 n, V, x 2, x 3, .pointer (some ⟨w.heap.size, 0, none⟩), .int .i64 err, x 6, x 7, x 8, x 9, x 10, x 11, x 12, x 13, x 14, x 15, x 16, x 17, x 18, x 19, x 20, x 21, x 22, x 23, x 24, x 25, x 26, x 27, x 28, x 29, x 30, x 31, x 32, x 33, x 34, x 35, x 36, x 37, x 38, x 39, x 40, x 41, x 42, x 43, x 44, x 45, x 46, x 47, x 48, x 49, x 50, x 51, x 52, x 53, x 54, x 55, x 56, x 57, x 58, x 59, x 60, x 61, x 62, x 63, x 64, x 65, x 66, x 67, x 68, x 69, x 70, x 71, x 72, x 73, x 74, x 75, x 76, x 77, x 78, x 79, x 80, x 81, x 82, x 83, x 84, x 85, x 86, x 87, x 88, x 89, x 90, x 91, x 92, x 93], defers := [] } ∧ Row w' w.heap.size 49 #[y0, y1, y2, y3] ∧ Keeps w w' []
theorem MpJump.mk' {w : World} {n : Int} {V : Value} {err : Int} {w' : World} {x2 x3 x6 x7 x8 x9 x10 x11 x12 x13 x14 x15 x16 x17 x18 x19 x20 x21 x22 x23 x24 x25 x26 x27 x28 x29 x30 x31 x32 x33 x34 x35 x36 x37 x38 x39 x40 x41 x42 x43 x44 x45 x46 x47 x48 x49 x50 x51 x52 x53 x54 x55 x56 x57 x58 x59 x60 x61 x62 x63 x64 x65 x66 x67 x68 x69 x70 x71 x72 x73 x74 x75 x76 x77 x78 x79 x80 x81 x82 x83 x84 x85 x86 x87 x88 x89 x90 x91 x92 x93 y0 y1 y2 y3 : Value} (h1 : Row w' w.heap.size 49 #[y0, y1, y2, y3]) (h2 : Keeps w w' []) :
    MpJump w n V err { tmps := #[.int .i64 n, V, x2, x3, .pointer (some ⟨w.heap.size, 0, none⟩), .int .i64 err, x6, x7, x8, x9, x10, x11, x12, x13, x14, x15, x16, x17, x18, x19, x20, x21, x22, x23, x24, x25, x26, x27, x28, x29, x30, x31, x32, x33, x34, x35, x36, x37, x38, x39, x40, x41, x42, x43, x44, x45, x46, x47, x48, x49, x50, x51, x52, x53, x54, x55, x56, x57, x58, x59, x60, x61, x62, x63, x64, x65, x66, x67, x68, x69, x70, x71, x72, x73, x74, x75, x76, x77, x78, x79, x80, x81, x82, x83, x84, x85, x86, x87, x88, x89, x90, x91, x92, x93], defers := [] } w' := ⟨fun i => (#[.int .i64 n, V, x2, x3, .pointer (some ⟨w.heap.size, 0, none⟩), .int .i64 err, x6, x7, x8, x9, x10, x11, x12, x13, x14, x15, x16, x17, x18, x19, x20, x21, x22, x23, x24, x25, x26, x27, x28, x29, x30, x31, x32, x33, x34, x35, x36, x37, x38, x39, x40, x41, x42, x43, x44, x45, x46, x47, x48, x49, x50, x51, x52, x53, x54, x55, x56, x57, x58, x59, x60, x61, x62, x63, x64, x65, x66, x67, x68, x69, x70, x71, x72, x73, x74, x75, x76, x77, x78, x79, x80, x81, x82, x83, x84, x85, x86, x87, x88, x89, x90, x91, x92, x93] : Array Value).getD i undef, _, _, _, _, rfl, h1, h2⟩
theorem mParse_door (W : World) (t : Array Value) (b : Nat) (x0 x1 x2 x3 y : Value) (h4 : t.getD 4 undef = .pointer (some ⟨b, 0, none⟩)) (h5 : t.getD 5 undef = y)
    (r : Row W b 49 #[x0, x1, x2, x3]) (R : Ending → World → Prop) (hR : R (.returned (.tuple #[.agg #[x0, x1, x2, x3], y])) W) :
    bodyPost Try.prog Try.f27 R Exit.ret { tmps := t, defers := [] } W := by
  have c0 := r.cell 0
  have c1 := r.cell 1
  have c2 := r.cell 2
  have c3 := r.cell 3
  rw [Array.getD_eq_getD_getElem?] at h4 h5
  simp at c0 c1 c2 c3
  refine bodyPost_ret (v := .tuple #[.agg #[x0, x1, x2, x3], y]) ?_ rfl hR
  simp [results, Try.results27, go_sem, h4, h5, c0, c1, c2, c3]

set_option maxRecDepth 100000 in
set_option maxHeartbeats 4000000 in
theorem mParse_out (w : World) (n : Int) (A : Option Addr) (c len : Nat) (_hlen : len ≤ 140737488351232) (h : ¬ (withinB n 0 1 = true ∧ len = 256)) :
    Calls Try.prog 27 #[.int .i64 n, .slice A len c] w fun e w' => e = .returned (metaV 0 0 0 0 2) ∧ Keeps w w' [] := by
  have HZ := Lib.hid (fun o1 o2 => And.intro (((Row.new w 49 #[.int .i64 0, .int .i64 0, .int .i64 0, .int .i64 0]).alloc o1).alloc o2) (((Keeps.alloc w (.cells #[.int .i64 0, .int .i64 0, .int .i64 0, .int .i64 0] 49)).then_alloc o1).then_alloc o2))
  go_enter Try.func27, Try.ntmps27
  go_wp2_with fail
  refine wp_scope_jumps 0 (MpJump w n (.slice A len c) 2) (fun _ _ => 0) rfl ?_ ?_
  · cases h0 : withinB n 0 1
    · have H0 := Lib.hid h0
      clear h h0
      go_wp2_with fail
      refine (mWithin_any _ _ _ _).mono ?_
      rintro e w1 ⟨rfl, rfl⟩
      rw [H0.out]
      go_wp2_with fail
      go_step3
      exact ⟨rfl, MpJump.mk' (HZ.out _ _).1 (HZ.out _ _).2⟩
    · have H0 := Lib.hid h0
      have hl : ((len : Int) != 256) = true := by rw [h0] at h; simp at h; simp; omega
      clear h h0
      go_wp2_with fail
      refine (mWithin_any _ _ _ _).mono ?_
      rintro e w1 ⟨rfl, rfl⟩
      rw [H0.out]
      go_wp2_with fail
      go_step3
      exact ⟨rfl, MpJump.mk' (HZ.out _ _).1 (HZ.out _ _).2⟩
  · clear h
    rintro a w1 ⟨x, y0, y1, y2, y3, rfl, hr, hk⟩
    have HR := Lib.hid (And.intro hr hk)
    have d0 := hr.cell 0
    have d1 := hr.cell 1
    have d2 := hr.cell 2
    have d3 := hr.cell 3
    simp only [List.getElem?_toArray, List.getElem?_cons_zero, List.getElem?_cons_succ] at d0 d1 d2 d3
    have g0 := hr.frozen 0
    have g1 := hr.frozen 1
    have g2 := hr.frozen 2
    have g3 := hr.frozen 3
    clear hr hk
    go_wp2_with fail
    obtain ⟨pp1, pp2⟩ := meta_put HR.out.1 (.int .i64 0) (.int .i64 0) (.int .i64 0) (.int .i64 0)
    simp only [Exit.jump]
    exact mParse_door _ _ w.heap.size _ _ _ _ (.int .i64 2) rfl rfl pp1 _ ⟨rfl, HR.out.2.trans pp2 (fun x hx hl => by simp at hx; omega)⟩
end Go.Proofs.Ythepcoifcoinoaa

namespace Go.Proofs.Ythepcoifcoinoaa
open Go.RowKit

theorem row_far4 {W : World} {g : Nat} {t : TypeId} {cs : Array Value} (h : Row W g t cs) {b : Nat} (hne : g ≠ b) (q0 q1 q2 q3 : Value) :
    Row ((((W.setCell ⟨b, 0, none⟩ q0).setCell ⟨b, 1, none⟩ q1).setCell ⟨b, 2, none⟩ q2).setCell ⟨b, 3, none⟩ q3) g t cs :=
  (((h.far (p := ⟨b, 0, none⟩) hne q0).far (p := ⟨b, 1, none⟩) hne q1).far (p := ⟨b, 2, none⟩) hne q2).far (p := ⟨b, 3, none⟩) hne q3
/-- The boxes of Parse, laid. -/
theorem mp_boxes (w : World) (o1 o2 o3 : Array Value) :
    ∃ W, W = ((w.alloc (.cells o1 49)).alloc (.cells o2 26)).alloc (.cells o3 98) ∧
      Row W w.heap.size 49 o1 ∧ Row W (w.heap.size + 1) 26 o2 ∧ Row W (w.heap.size + 1 + 1) 98 o3 ∧ Keeps w W [] ∧ W.heap.size = w.heap.size + 3 := by
  refine ⟨_, rfl, ((Row.new _ _ _).alloc _).alloc _, ?_, ?_, ((Keeps.alloc _ _).then_alloc _).then_alloc _, by simp⟩
  · have := (Row.new (w.alloc (.cells o1 49)) 26 o2).alloc (.cells o3 98)
    rwa [World.size_alloc] at this
  · have := Row.new ((w.alloc (.cells o1 49)).alloc (.cells o2 26)) 98 o3
    rwa [World.size_alloc, World.size_alloc] at this

set_option maxRecDepth 100000 in
set_option maxHeartbeats 8000000 in
theorem mParse_bad (w : World) (n : Int) (A : Option Addr) (c : Nat) (l : List UInt8) (hn : withinB n 0 1 = true) (hl : l.length = 256) (hB : Bytes w w.heap.size (.slice A l.length c) l) (hp : mpPage n l = false) :
    Calls Try.prog 27 #[.int .i64 n, .slice A l.length c] w fun e w' => e = .returned (metaV 0 0 0 0 160) ∧ Keeps w w' [] := by
  have HB := Lib.hid hB
  have HN := Lib.hid hn
  have HP := Lib.hid hp
  have HL := Lib.hid hl
  clear hB hn hp
  rw [hl]
  clear hl
  go_enter Try.func27, Try.ntmps27
  go_wp2_with fail
  refine wp_scope_jumps 0 (MpJump w n (.slice A 256 c) 160) (fun _ _ => 0) rfl ?_ ?_
  · go_wp2_with fail
    refine (mWithin_any _ _ _ _).mono ?_
    rintro e w1 ⟨rfl, rfl⟩
    rw [HN.out]
    go_wp2_with fail
    obtain ⟨W, hW, r0, r6, r7, k0, hs0⟩ := mp_boxes w #[.int .i64 0, .int .i64 0, .int .i64 0, .int .i64 0] #[.int .i64 0, .int .i64 0, .int .i64 0, .slice none 0 0] #[.int .i64 0, .int .i64 0, .int .i64 0]
    rw [← hW]
    clear hW
    have hpar := parse_any W n A c l (HB.out.keeps k0) HB.out.len
    rw [HL.out] at hpar
    refine hpar.mono ?_
    clear hpar
    rintro e w2 ⟨hk, ⟨h2, h3, h4, A1, cc1, rfl, ho⟩ | ⟨h2, rfl⟩⟩
    · have r62 := r6.keeps hk
      have H2 := Lib.hid (And.intro (r0.keeps hk) (And.intro r62 (k0.then_ hk)))
      have hlt := r62.lt
      have hlt7 := (r7.keeps hk).lt
      have c0 := r62.cell 0
      have c1 := r62.cell 1
      have c2 := r62.cell 2
      have c3 := r62.cell 3
      simp only [List.getElem?_toArray, List.getElem?_cons_zero, List.getElem?_cons_succ] at c0 c1 c2 c3
      have g0 := r62.frozen 0
      have g1 := r62.frozen 1
      have g2 := r62.frozen 2
      have g3 := r62.frozen 3
      have HX := Lib.hid h2
      clear r0 r6 r7 hk r62 k0 h2 h3 h4 ho
      by_cases b1 : pgKind l = 1
      · have f1 : (((pgKind l : Nat) : Int) != 1) = false := by simp [b1]
        by_cases b2 : pgNext l = 0
        · have f2 : (((pgNext l : Nat) : Int) != 0) = false := by simp [b2]
          by_cases b3 : whereOf (pgTxid l) = n
          · have f3 : (whereOf (pgTxid l) != n) = false := by simp [b3]
            have b4 : ¬ (pgBody l).length = 12 := fun b4 => by
              have := HP.out
              simp [mpPage, HX.out, b1, b2, b3, b4] at this
            have f4 : (((pgBody l).length : Int) != 12) = true := by simp; omega
            clear b1 b2 b3 b4
            go_wp2_with (go_at_call 32; refine (where_any _ _).mono ?_; rintro e w3 ⟨rfl, rfl⟩)
            go_step3
            exact ⟨rfl, MpJump.mk' (row_far4 H2.out.1 (by omega) _ _ _ _) (H2.out.2.2.trans (page_put H2.out.2.1 _ _ _ _).2 (fun x hx hl => by simp at hx; omega))⟩
          · have f3 : (whereOf (pgTxid l) != n) = true := by simp [b3]
            clear b1 b2 b3
            go_wp2_with (go_at_call 32; refine (where_any _ _).mono ?_; rintro e w3 ⟨rfl, rfl⟩)
            go_step3
            exact ⟨rfl, MpJump.mk' (row_far4 H2.out.1 (by omega) _ _ _ _) (H2.out.2.2.trans (page_put H2.out.2.1 _ _ _ _).2 (fun x hx hl => by simp at hx; omega))⟩
        · have f2 : (((pgNext l : Nat) : Int) != 0) = true := by simp [b2]
          clear b1 b2
          go_wp2_with (go_at_call 32; refine (where_any _ _).mono ?_; rintro e w3 ⟨rfl, rfl⟩)
          go_step3
          exact ⟨rfl, MpJump.mk' (row_far4 H2.out.1 (by omega) _ _ _ _) (H2.out.2.2.trans (page_put H2.out.2.1 _ _ _ _).2 (fun x hx hl => by simp at hx; omega))⟩
      · have f1 : (((pgKind l : Nat) : Int) != 1) = true := by simp; omega
        clear b1
        go_wp2_with (go_at_call 32; refine (where_any _ _).mono ?_; rintro e w3 ⟨rfl, rfl⟩)
        go_step3
        exact ⟨rfl, MpJump.mk' (row_far4 H2.out.1 (by omega) _ _ _ _) (H2.out.2.2.trans (page_put H2.out.2.1 _ _ _ _).2 (fun x hx hl => by simp at hx; omega))⟩
    · have r62 := r6.keeps hk
      have H2 := Lib.hid (And.intro (r0.keeps hk) (And.intro r62 (k0.then_ hk)))
      have hlt := r62.lt
      have hlt7 := (r7.keeps hk).lt
      have c0 := r62.cell 0
      have c1 := r62.cell 1
      have c2 := r62.cell 2
      have c3 := r62.cell 3
      simp only [List.getElem?_toArray, List.getElem?_cons_zero, List.getElem?_cons_succ] at c0 c1 c2 c3
      have g0 := r62.frozen 0
      have g1 := r62.frozen 1
      have g2 := r62.frozen 2
      have g3 := r62.frozen 3
      have h2b : (((parseErr n l : Nat) : Int) == 0) = false := by simp; omega
      clear r0 r6 r7 hk r62 k0 h2
      simp only [noParse]
      go_wp2_with (go_at_call 32; refine (where_any _ _).mono ?_; rintro e w3 ⟨rfl, rfl⟩)
      go_step3
      exact ⟨rfl, MpJump.mk' (row_far4 H2.out.1 (by omega) _ _ _ _) (H2.out.2.2.trans (page_put H2.out.2.1 _ _ _ _).2 (fun x hx hl => by simp at hx; omega))⟩
  · skip
    rintro a w1 ⟨x, y0, y1, y2, y3, rfl, hr, hk⟩
    have HR := Lib.hid (And.intro hr hk)
    have d0 := hr.cell 0
    have d1 := hr.cell 1
    have d2 := hr.cell 2
    have d3 := hr.cell 3
    simp only [List.getElem?_toArray, List.getElem?_cons_zero, List.getElem?_cons_succ] at d0 d1 d2 d3
    have g0 := hr.frozen 0
    have g1 := hr.frozen 1
    have g2 := hr.frozen 2
    have g3 := hr.frozen 3
    clear hr hk
    go_wp2_with fail
    obtain ⟨pp1, pp2⟩ := meta_put HR.out.1 (.int .i64 0) (.int .i64 0) (.int .i64 0) (.int .i64 0)
    simp only [Exit.jump]
    exact mParse_door _ _ w.heap.size _ _ _ _ (.int .i64 160) rfl rfl pp1 _ ⟨rfl, HR.out.2.trans pp2 (fun x hx hl => by simp at hx; omega)⟩
end Go.Proofs.Ythepcoifcoinoaa

namespace Go.Proofs.Ythepcoifcoinoaa
open Go.RowKit

/-- The numbers as they are read, one behind the other. -/
def nArr (l : List UInt8) (j : Nat) : Array Value := #[.int .i64 (if 0 < j then (mbNum l 0 : Nat) else 0), .int .i64 (if 1 < j then (mbNum l 1 : Nat) else 0), .int .i64 (if 2 < j then (mbNum l 2 : Nat) else 0)]
theorem nArr_put (l : List UInt8) (j : Nat) (hj : j < 3) : (nArr l j).setIfInBounds j (.int .i64 (mbNum l j : Nat)) = nArr l (j + 1) := by
  match j, hj with
  | 0, _ => rfl
  | 1, _ => rfl
  | 2, _ => rfl

set_option maxRecDepth 100000 in
set_option maxHeartbeats 8000000 in
theorem mParse_fine (w : World) (n : Int) (A : Option Addr) (c : Nat) (l : List UInt8) (hn : withinB n 0 1 = true) (hl : l.length = 256) (hB : Bytes w w.heap.size (.slice A l.length c) l) (hp : mpPage n l = true) :
    Calls Try.prog 27 #[.int .i64 n, .slice A l.length c] w (MParseDone w n l) := by
  have HE := Lib.hid (mpErr_in hn hl)
  have HB := Lib.hid hB
  have HN := Lib.hid hn
  have HL := Lib.hid hl
  simp only [mpPage, Bool.and_eq_true, beq_iff_eq] at hp
  obtain ⟨p0, p1, p2, p3, p4⟩ := hp
  have HP := Lib.hid (show mpPage n l = true by simp [mpPage, p0, p1, p2, p3, p4])
  have H12 := Lib.hid p4
  have HW := Lib.hid p3
  have HK := Lib.hid (And.intro p0 (And.intro p1 p2))
  clear hB hn p0 p1 p2 p3 p4
  rw [hl]
  clear hl
  have hmf : ∀ (fn : Fn) (first cap : Array Value) (w : World), (Instr.makeFunc fn first cap).run Try.prog w = .ok (.func fn first cap) w := fun _ _ _ _ => rfl
  go_enter Try.func27, Try.ntmps27
  go_wp2_with fail
  refine wp_scope_jumps 0 (fun a w' => MpJump w n (.slice A 256 c) 160 a w' ∧ mpGood l = false) (fun _ _ => 0) rfl ?_ ?_
  · go_wp2_with fail
    refine (mWithin_any _ _ _ _).mono ?_
    rintro e w1 ⟨rfl, rfl⟩
    rw [HN.out]
    go_wp2_with fail
    obtain ⟨W, hW, r0, r6, r7, k0, hs0⟩ := mp_boxes w #[.int .i64 0, .int .i64 0, .int .i64 0, .int .i64 0] #[.int .i64 0, .int .i64 0, .int .i64 0, .slice none 0 0] #[.int .i64 0, .int .i64 0, .int .i64 0]
    rw [← hW]
    clear hW
    have hpar := parse_any W n A c l (HB.out.keeps k0) HB.out.len
    rw [HL.out] at hpar
    refine hpar.mono ?_
    clear hpar
    rintro e w2 ⟨hk, ⟨h2, h3, h4, A1, cc1, rfl, ho⟩ | ⟨h2, _⟩⟩
    · have r62 := r6.keeps hk
      have H2 := Lib.hid (And.intro (r0.keeps hk) (And.intro r62 (And.intro (r7.keeps hk) (And.intro (k0.then_ hk) ho))))
      have hlt := r62.lt
      have hlt7 := (r7.keeps hk).lt
      have c0 := r62.cell 0
      have c1 := r62.cell 1
      have c2 := r62.cell 2
      have c3 := r62.cell 3
      simp only [List.getElem?_toArray, List.getElem?_cons_zero, List.getElem?_cons_succ] at c0 c1 c2 c3
      have g0 := r62.frozen 0
      have g1 := r62.frozen 1
      have g2 := r62.frozen 2
      have g3 := r62.frozen 3
      clear r0 r6 r7 hk r62 k0 h2 h3 h4 ho
      rw [H12.out, HK.out.2.1, HK.out.2.2]
      go_wp2_with (go_at_call 32; refine (where_any _ _).mono ?_; rintro e w3 ⟨rfl, rfl⟩; rw [HW.out])
      obtain ⟨q6, qk⟩ := page_put H2.out.2.1 (.int .i64 1) (.int .i64 (pgTxid l)) (.int .i64 0) (.slice A1 12 cc1)
      have q0 := row_far4 H2.out.1 (b := w.heap.size + 1) (by omega) (.int .i64 1) (.int .i64 (pgTxid l)) (.int .i64 0) (.slice A1 12 cc1)
      have q7 := row_far4 H2.out.2.2.1 (b := w.heap.size + 1) (by omega) (.int .i64 1) (.int .i64 (pgTxid l)) (.int .i64 0) (.slice A1 12 cc1)
      have qo := Owned.bytes (own_keep H2.out.2.2.2.2 qk (fun g hg hm => by have := (owned_lt H2.out.2.2.2.2 g hg).1; simp at hm; omega)) (by rw [H12.out]; omega)
      rw [H12.out] at qo
      have qw := H2.out.2.2.2.1.trans qk (fun x hx hl => by simp at hx; omega)
      obtain ⟨W3, hW3⟩ : ∃ W3, (((w2.setCell ⟨w.heap.size + 1, 0, none⟩ (.int .i64 1)).setCell ⟨w.heap.size + 1, 1, none⟩ (.int .i64 (pgTxid l))).setCell ⟨w.heap.size + 1, 2, none⟩ (.int .i64 0)).setCell ⟨w.heap.size + 1, 3, none⟩ (.slice A1 12 cc1) = W3 := ⟨_, rfl⟩
      rw [hW3] at q6 q0 q7 qo qw ⊢
      clear hW3 qk c0 c1 c2 c3 g0 g1 g2 g3
      refine (newReader_any W3 _ _ qo).mono ?_
      rintro e w4 ⟨r, rfl, hrd, hk4⟩
      have H4 := Lib.hid (And.intro (q0.keeps hk4) (And.intro (q6.keeps hk4) (And.intro (q7.keeps hk4) (And.intro (qw.then_ hk4) (And.intro hrd hk4)))))
      have hlt7' := q7.lt
      clear q0 q6 q7 qo qw hrd hk4
      go_wp2_with fail
      go_loopw [65] (fun i wr => ∃ j : Nat, j ≤ 3 ∧ i = .int .i64 j ∧ Rd wr W3.heap.size r ((pgBody l).drop (4 * j)) ∧ Row wr (w.heap.size + 1 + 1) 98 (nArr l j) ∧ Keeps w4 wr [r, w.heap.size + 1 + 1]) (fun i _ => 3 - (intOf i).toNat)
      case atStart => exact ⟨0, by omega, rfl, H4.out.2.2.2.2.1, H4.out.2.2.1, Keeps.refl _ _⟩
      case round =>
        obtain ⟨j, hj, rfl, hrd, hr7, hk⟩ := hrel
        have HJ := Lib.hid (And.intro hrd (And.intro hr7 hk))
        clear hrd hr7 hk
        by_cases hlt3 : j < 3
        · rcases (show j = 0 ∨ j = 1 ∨ j = 2 by omega) with rfl | rfl | rfl
          · skip
            have ij : ∀ w, (Instr.index 99 (.agg #[.func (.func 39) #[.pointer (some ⟨r, 0, none⟩)] #[], .func (.func 39) #[.pointer (some ⟨r, 0, none⟩)] #[], .func (.func 39) #[.pointer (some ⟨r, 0, none⟩)] #[]]) (.int .i64 0)).run Try.prog w = .ok (.func (.func 39) #[.pointer (some ⟨r, 0, none⟩)] #[]) w := fun _ => by kernel_rfl
            have hrow := HJ.out.2.1
            have cJ := hrow.cell 0
            have gJ := hrow.frozen 0
            have hs7 := hrow.lt
            clear hrow
            go_wp2_with fail
            refine (rdNumber_any wr W3.heap.size r 4 ((pgBody l).drop (4 * 0)) HJ.out.1 (by omega) (by omega) (by rw [List.length_drop, H12.out]; omega)).mono ?_
            rintro e w5 ⟨rfl, hrd, hk⟩
            rw [List.drop_drop] at hrd
            rw [show beN (((pgBody l).drop (4 * 0)).take 4) = mbNum l 0 from rfl]
            have hx := mbNum_lt l 0
            have hne : w.heap.size + 1 + 1 ≠ r := fun h => by
              have := HJ.out.1.choose_spec.choose_spec.2.1
              omega
            have hrow := HJ.out.2.1.keep hk (by simpa using hne)
            have cJ := hrow.cell 0
            have gJ := hrow.frozen 0
            have HJ5 := Lib.hid (And.intro hrd (And.intro hrow (HJ.out.2.2.trans hk (by simp))))
            have HNp := Lib.hid (nArr_put l 0 (by omega))
            clear hrd hrow hk hlt3
            generalize hX : mbNum l 0 = X at *
            go_wp2_with fail
            have ks := Keeps.setCell w5 ⟨w.heap.size + 1 + 1, 0, none⟩ (.int .i64 (X : Nat))
            refine ⟨⟨0 + 1, by omega, by go_num, ?_, ?_, ?_⟩, by simp [intOf]⟩
            · exact HJ5.out.1.keep ks (fun x hx => by simp at hx; omega)
            · have := HJ5.out.2.1.store 0 (.int .i64 (X : Nat))
              rw [HNp.out] at this
              exact this
            · exact HJ5.out.2.2.trans ks (by simp)
          · skip
            have ij : ∀ w, (Instr.index 99 (.agg #[.func (.func 39) #[.pointer (some ⟨r, 0, none⟩)] #[], .func (.func 39) #[.pointer (some ⟨r, 0, none⟩)] #[], .func (.func 39) #[.pointer (some ⟨r, 0, none⟩)] #[]]) (.int .i64 1)).run Try.prog w = .ok (.func (.func 39) #[.pointer (some ⟨r, 0, none⟩)] #[]) w := fun _ => by kernel_rfl
            have hrow := HJ.out.2.1
            have cJ := hrow.cell 1
            have gJ := hrow.frozen 1
            have hs7 := hrow.lt
            clear hrow
            go_wp2_with fail
            refine (rdNumber_any wr W3.heap.size r 4 ((pgBody l).drop (4 * 1)) HJ.out.1 (by omega) (by omega) (by rw [List.length_drop, H12.out]; omega)).mono ?_
            rintro e w5 ⟨rfl, hrd, hk⟩
            rw [List.drop_drop] at hrd
            rw [show beN (((pgBody l).drop (4 * 1)).take 4) = mbNum l 1 from rfl]
            have hx := mbNum_lt l 1
            have hne : w.heap.size + 1 + 1 ≠ r := fun h => by
              have := HJ.out.1.choose_spec.choose_spec.2.1
              omega
            have hrow := HJ.out.2.1.keep hk (by simpa using hne)
            have cJ := hrow.cell 1
            have gJ := hrow.frozen 1
            have HJ5 := Lib.hid (And.intro hrd (And.intro hrow (HJ.out.2.2.trans hk (by simp))))
            have HNp := Lib.hid (nArr_put l 1 (by omega))
            clear hrd hrow hk hlt3
            generalize hX : mbNum l 1 = X at *
            go_wp2_with fail
            have ks := Keeps.setCell w5 ⟨w.heap.size + 1 + 1, 1, none⟩ (.int .i64 (X : Nat))
            refine ⟨⟨1 + 1, by omega, by go_num, ?_, ?_, ?_⟩, by simp [intOf]⟩
            · exact HJ5.out.1.keep ks (fun x hx => by simp at hx; omega)
            · have := HJ5.out.2.1.store 1 (.int .i64 (X : Nat))
              rw [HNp.out] at this
              exact this
            · exact HJ5.out.2.2.trans ks (by simp)
          · skip
            have ij : ∀ w, (Instr.index 99 (.agg #[.func (.func 39) #[.pointer (some ⟨r, 0, none⟩)] #[], .func (.func 39) #[.pointer (some ⟨r, 0, none⟩)] #[], .func (.func 39) #[.pointer (some ⟨r, 0, none⟩)] #[]]) (.int .i64 2)).run Try.prog w = .ok (.func (.func 39) #[.pointer (some ⟨r, 0, none⟩)] #[]) w := fun _ => by kernel_rfl
            have hrow := HJ.out.2.1
            have cJ := hrow.cell 2
            have gJ := hrow.frozen 2
            have hs7 := hrow.lt
            clear hrow
            go_wp2_with fail
            refine (rdNumber_any wr W3.heap.size r 4 ((pgBody l).drop (4 * 2)) HJ.out.1 (by omega) (by omega) (by rw [List.length_drop, H12.out]; omega)).mono ?_
            rintro e w5 ⟨rfl, hrd, hk⟩
            rw [List.drop_drop] at hrd
            rw [show beN (((pgBody l).drop (4 * 2)).take 4) = mbNum l 2 from rfl]
            have hx := mbNum_lt l 2
            have hne : w.heap.size + 1 + 1 ≠ r := fun h => by
              have := HJ.out.1.choose_spec.choose_spec.2.1
              omega
            have hrow := HJ.out.2.1.keep hk (by simpa using hne)
            have cJ := hrow.cell 2
            have gJ := hrow.frozen 2
            have HJ5 := Lib.hid (And.intro hrd (And.intro hrow (HJ.out.2.2.trans hk (by simp))))
            have HNp := Lib.hid (nArr_put l 2 (by omega))
            clear hrd hrow hk hlt3
            generalize hX : mbNum l 2 = X at *
            go_wp2_with fail
            have ks := Keeps.setCell w5 ⟨w.heap.size + 1 + 1, 2, none⟩ (.int .i64 (X : Nat))
            refine ⟨⟨2 + 1, by omega, by go_num, ?_, ?_, ?_⟩, by simp [intOf]⟩
            · exact HJ5.out.1.keep ks (fun x hx => by simp at hx; omega)
            · have := HJ5.out.2.1.store 2 (.int .i64 (X : Nat))
              rw [HNp.out] at this
              exact this
            · exact HJ5.out.2.2.trans ks (by simp)
        · obtain rfl : j = 3 := by omega
          have hrb : W3.heap.size ≤ r := HJ.out.1.choose_spec.choose_spec.2.1
          have r0 := H4.out.1.keep HJ.out.2.2 (by simp; omega)
          have r6 := H4.out.2.1.keep HJ.out.2.2 (by simp; omega)
          have r7 := HJ.out.2.1
          have K5 : Keeps w wr [] := H4.out.2.2.2.1.trans HJ.out.2.2 (fun x hx hl => by simp at hx; omega)
          have H5 := Lib.hid (And.intro r0 K5)
          have c0 := r0.cell 0
          have c1 := r0.cell 1
          have c2 := r0.cell 2
          have c3 := r0.cell 3
          simp only [List.getElem?_toArray, List.getElem?_cons_zero, List.getElem?_cons_succ] at c0 c1 c2 c3
          have g0 := r0.frozen 0
          have g1 := r0.frozen 1
          have g2 := r0.frozen 2
          have g3 := r0.frozen 3
          have e1 := r6.cell 1
          have f0 := r7.cell 0
          have f1 := r7.cell 1
          have f2 := r7.cell 2
          simp [nArr] at f0 f1 f2
          have hl0 := r0.lt
          have hl6 := r6.lt
          have hl7 := r7.lt
          have HG := Lib.hid (show mpGood l = metaOk (pgTxid l) (mbNum l 0) (mbNum l 1) (mbNum l 2) from rfl)
          clear r0 r6 r7 K5
          generalize hx0 : mbNum l 0 = x0 at *
          generalize hx1 : mbNum l 1 = x1 at *
          generalize hx2 : mbNum l 2 = x2 at *
          have HX := Lib.hid (And.intro hx0 (And.intro hx1 hx2))
          clear hx0 hx1 hx2
          go_wp2_with fail
          obtain ⟨pp1, pp2⟩ := meta_put H5.out.1 (.int .i64 (pgTxid l)) (.int .i64 (x0 : Nat)) (.int .i64 (x1 : Nat)) (.int .i64 (x2 : Nat))
          obtain ⟨W6, hW6⟩ : ∃ W6, (((wr.setCell ⟨w.heap.size, 0, none⟩ (.int .i64 (pgTxid l))).setCell ⟨w.heap.size, 1, none⟩ (.int .i64 (x0 : Nat))).setCell ⟨w.heap.size, 2, none⟩ (.int .i64 (x1 : Nat))).setCell ⟨w.heap.size, 3, none⟩ (.int .i64 (x2 : Nat)) = W6 := ⟨_, rfl⟩
          rw [hW6] at pp1 pp2 ⊢
          have K6 := H5.out.2.trans pp2 (fun x hx hl => by simp at hx; omega)
          clear hW6 pp2 c0 c1 c2 c3 g0 g1 g2 g3 e1 f0 f1 f2
          refine (mCheck_any _ _ _ _ W6).mono ?_
          rintro e w7 ⟨rfl, hk7⟩
          have r7 := pp1.keeps hk7
          have H7 := Lib.hid (And.intro r7 (K6.then_ hk7))
          have c0 := r7.cell 0
          have c1 := r7.cell 1
          have c2 := r7.cell 2
          have c3 := r7.cell 3
          simp only [List.getElem?_toArray, List.getElem?_cons_zero, List.getElem?_cons_succ] at c0 c1 c2 c3
          have g0 := r7.frozen 0
          have g1 := r7.frozen 1
          have g2 := r7.frozen 2
          have g3 := r7.frozen 3
          clear K6 hk7 r7 pp1
          cases hg : mpGood l
          · have hm := HG.out
            rw [hg] at hm
            have HM := Lib.hid (show metaErr (pgTxid l) x0 x1 x2 = 2 by simp [metaErr, ← hm])
            clear hm
            rw [HM.out]
            have HF := Lib.hid hg
            clear hg
            go_wp2_with fail
            go_step3
            exact ⟨rfl, MpJump.mk' H7.out.1 H7.out.2, HF.out⟩
          · have hm := HG.out
            rw [hg] at hm
            have HM := Lib.hid (show metaErr (pgTxid l) x0 x1 x2 = 0 by simp [metaErr, ← hm])
            have he := Lib.hid (show mpErr n l = 0 by rw [HE.out, HP.out, hg]; rfl)
            clear hm
            rw [HM.out]
            clear hg
            go_wp2_with fail
            obtain ⟨pp1, pp2⟩ := meta_put H7.out.1 (.int .i64 (pgTxid l)) (.int .i64 (x0 : Nat)) (.int .i64 (x1 : Nat)) (.int .i64 (x2 : Nat))
            simp only [Exit.jump]
            exact mParse_door _ _ w.heap.size _ _ _ _ (.int .i64 0) rfl rfl pp1 _ ⟨H7.out.2.trans pp2 (fun x hx hl => by simp at hx; omega), .inl ⟨he.out, by rw [HX.out.1, HX.out.2.1, HX.out.2.2]; rfl⟩⟩
    · exact absurd HK.out.1 h2
  · rintro a w1 ⟨hj, hg⟩
    revert hj
    have he := Lib.hid (show mpErr n l = 160 by rw [HE.out, HP.out, hg]; rfl)
    clear hg
    revert a w1
    rintro a w1 ⟨x, y0, y1, y2, y3, rfl, hr, hk⟩
    have HR := Lib.hid (And.intro hr hk)
    have d0 := hr.cell 0
    have d1 := hr.cell 1
    have d2 := hr.cell 2
    have d3 := hr.cell 3
    simp only [List.getElem?_toArray, List.getElem?_cons_zero, List.getElem?_cons_succ] at d0 d1 d2 d3
    have g0 := hr.frozen 0
    have g1 := hr.frozen 1
    have g2 := hr.frozen 2
    have g3 := hr.frozen 3
    clear hr hk
    go_wp2_with fail
    obtain ⟨pp1, pp2⟩ := meta_put HR.out.1 (.int .i64 0) (.int .i64 0) (.int .i64 0) (.int .i64 0)
    simp only [Exit.jump]
    exact mParse_door _ _ w.heap.size _ _ _ _ (.int .i64 160) rfl rfl pp1 _ ⟨HR.out.2.trans pp2 (fun x hx hl => by simp at hx; omega), .inr ⟨by rw [he.out]; decide, by rw [he.out]; rfl⟩⟩

theorem mParse_any (w : World) (n : Int) (A : Option Addr) (c : Nat) (l : List UInt8) (hB : Bytes w w.heap.size (.slice A l.length c) l) :
    Calls Try.prog 27 #[.int .i64 n, .slice A l.length c] w (MParseDone w n l) := by
  by_cases h : withinB n 0 1 = true ∧ l.length = 256
  · cases hp : mpPage n l
    · refine (mParse_bad w n A c l h.1 h.2 hB hp).mono ?_
      rintro e w' ⟨rfl, hk⟩
      have : mpErr n l = 160 := by rw [mpErr_in h.1 h.2, hp]; rfl
      exact ⟨hk, .inr ⟨by omega, by rw [this]; rfl⟩⟩
    · exact mParse_fine w n A c l h.1 h.2 hB hp
  · refine (mParse_out w n A c l.length hB.len h).mono ?_
    rintro e w' ⟨rfl, hk⟩
    have := mpErr_out h
    exact ⟨hk, .inr ⟨by omega, by rw [this]; rfl⟩⟩
end Go.Proofs.Ythepcoifcoinoaa
