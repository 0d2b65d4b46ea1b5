/- The statement SpaceCopies (layer 7): its loops of calls. The statement SpaceCopies (layer 7): its walk. -/
import Derived.Test.YtanbdkfkkochgaaPa27
import Derived.Test.YtanbdkfkkochgaaPa19
import Derived.Test.YtanbdkfkkochgaaPa17
import Derived.Test.YtanbdkfkkochgaaPa31

namespace Go.Proofs.Ytanbdkfkkochgaa
open Go.RowKit Go.Maps Go.Shelf

theorem known7_at {w w' : World} (h : Keeps w w' []) : Calls Try.prog 9 #[] w' fun e w'' => e = .returned (.bool true) ∧ Keeps w w'' [] :=
  (known7_any w').mono fun _ _ ⟨a, b⟩ => ⟨a, h.then_ b⟩
/-- A space lies at s, a box of the document's at gb; what was there first stays. -/
structure SpB (W0 : World) (s gb : Nat) (w : World) : Prop where
  k : Keeps W0 w []
  sp : ∃ ss, Row w s 59 ss
  box : ∃ u0 u1 u2, Row w gb 39 #[u0, u1, u2]
/-- What neither the call nor the store changes. -/
structure SpC (W0 : World) (s gb : Nat) (w w' : World) : Prop where
  size : w.heap.size ≤ w'.heap.size
  row : ∀ {c : Nat} {t : TypeId} {cs : Array Value}, c ≠ s → c ≠ gb → Row w c t cs → Row w' c t cs
  y : SpB W0 s gb w → SpB W0 s gb w'
def SpP (P : World → List Nat → List Nat → Prop) (w w' : World) : Prop := ∀ L M, P w L M → P w' L M
def RowB (gb : Nat) (w w' : World) : Prop := ∀ cs, Row w gb 39 cs → Row w' gb 39 cs
theorem SpB.keeps {W0 : World} {s gb : Nat} {w w' : World} (h : SpB W0 s gb w) (hk : Keeps w w' []) : SpB W0 s gb w' := ⟨h.k.then_ hk, h.sp.imp fun _ r => r.keeps hk, by obtain ⟨u0, u1, u2, r⟩ := h.box; exact ⟨u0, u1, u2, r.keeps hk⟩⟩
theorem SpC.ok {W0 : World} {s gb : Nat} : RelOk (SpC W0 s gb) := ⟨fun h => ⟨h.size, fun _ _ hr => hr.keeps h, fun k => k.keeps h⟩, fun h k => ⟨Nat.le_trans h.size k.size, fun a b r => k.row a b (h.row a b r), fun y => k.y (h.y y)⟩⟩
theorem SpP.ok {P : World → List Nat → List Nat → Prop} (hP : ∀ {w w' L M}, P w L M → Keeps w w' [] → P w' L M) : RelOk (SpP P) := ⟨fun h _ _ p => hP p h, fun h k L M p => k L M (h L M p)⟩
theorem RowB.ok {gb : Nat} : RelOk (RowB gb) := ⟨fun h _ r => r.keeps h, fun h k cs r => k cs (h cs r)⟩
section
variable {W0 w w' : World} {s gb : Nat} {g : Value} {most : Int} {L M : List Nat}
theorem RefL.spc {A : Option Addr} (h : RefL w A L) (hC : SpC W0 s gb w w') (hy : SpB W0 s gb w) : RefL w' A L := fun hp => by
  obtain ⟨b, o, cs, e, hr, hc⟩ := h hp
  obtain ⟨ss, hs⟩ := hy.sp
  obtain ⟨u0, u1, u2, hb⟩ := hy.box
  exact ⟨b, o, cs, e, hC.row (Row.ne_type hr hs (by decide)) (Row.ne_type hr hb (by decide)) hr, hc⟩
theorem RefAt.spc (h : RefAt w g most L M) (hC : SpC W0 s gb w w') (hy : SpB W0 s gb w) : RefAt w' g most L M := by
  obtain ⟨A, c, B, d, e, h1, h2⟩ := h.e
  exact ⟨A, c, B, d, e, h1.spc hC hy, h2.spc hC hy⟩
end
/-- The document's value that is handed back. -/
def refV (A : Option Addr) (n c : Nat) (B : Option Addr) (l d : Nat) : Value := .agg #[.int .i64 60, .slice A n c, .slice B l d]
def DoneAt (P : World → List Nat → List Nat → Prop) (L1 M1 : List Nat) (v : Value) (w : World) : Prop := ∃ A n c B l d, v = .tuple #[refV A n c B l d, .bool true] ∧ RefAt w (refV A n c B l d) 60 L1 M1 ∧ P w L1 M1
theorem does60 {P : World → List Nat → List Nat → Prop} {n0 s : Nat} (hP : SpSense n0 P s 60) (w : World) (L M : List Nat) (h : P w L M) (g : Value) (hg : RefAt w g 60 L M) (h0 : L.getD 0 0 = 0 ∧ L.getD 1 0 = 0) (hl : L.length ≤ 100000)
    (k x : Int) (hx : -9223372036854775808 ≤ x ∧ x ≤ 9223372036854775807) : Calls Try.prog 18 #[.pointer (some ⟨s, 0, none⟩), g, .agg #[.int .i64 k, .int .i64 x]] w fun e w' => ∃ v, e = .returned v ∧ DoneAt P (spAct k x 60 L M).1 (spAct k x 60 L M).2 v w' ∧ RowsBut s w w' := by
  refine (does_any hP w L M h g 60 L M hg h0 hl k x hx).mono ?_
  rintro e w' ⟨g', b, rfl, h1, h2, h3, h4⟩
  obtain ⟨A, c, B, d, rfl, hA, hB⟩ := h1.e
  exact ⟨_, rfl, ⟨A, _, c, B, _, d, by rw [h4 rfl rfl]; rfl, h1, h2⟩, h3⟩
theorem does_stp {P : World → List Nat → List Nat → Prop} {W0 w w' : World} {s gb : Nat} (_hy : SpB W0 s gb w) (hr : RowsBut s w w') (hk : Keeps W0 w' []) (hs : ∃ ss, Row w' s 59 ss) (hne : gb ≠ s) {p1 a1 p2 a2 : List Nat} :
    StpK [⟨7, p1, a1⟩, ⟨11, p2, a2⟩] (SpC W0 s gb) (twoA 7 (SpP P) 11 (RowB gb)) 7 w w' :=
  .two ⟨hr.size, fun a _ r => hr.row a r, fun h => ⟨hk, hs, by obtain ⟨u0, u1, u2, r⟩ := h.box; exact ⟨u0, u1, u2, hr.row hne r⟩⟩⟩ (fun h => absurd rfl h) (fun _ cs r => hr.row hne r)
theorem put_stp {P : World → List Nat → List Nat → Prop} {n0 s : Nat} (hP : SpSense n0 P s 60) {W0 w : World} {gb : Nat} (_hy : SpB W0 s gb w) {u0 u1 u2 x0 x1 x2 : Value} (hr : Row w gb 39 #[u0, u1, u2]) (hn : n0 ≤ gb) (hW : W0.heap.size ≤ gb) {p1 a1 p2 a2 : List Nat} :
    StpK [⟨7, p1, a1⟩, ⟨11, p2, a2⟩] (SpC W0 s gb) (twoA 7 (SpP P) 11 (RowB gb)) 11 w (((w.setCell ⟨gb, 0, none⟩ x0).setCell ⟨gb, 1, none⟩ x1).setCell ⟨gb, 2, none⟩ x2) := by
  obtain ⟨p1', p2'⟩ := ref_put hr x0 x1 x2
  exact .two ⟨p2'.size, fun _ b r => r.keep p2' (by simpa using b), fun h => ⟨h.k.trans p2' (fun y hy hlt => by simp at hy; omega), h.sp.imp fun ss r => r.keep p2' (by simpa using Row.ne_type r hr (by decide)), ⟨_, _, _, p1'⟩⟩⟩
    (fun _ L M h => hP.box h hn hr p2') (fun h => absurd rfl h)
/-- Behind the region: what stands. -/
structure StandAt (P : World → List Nat → List Nat → Prop) (gb : Nat) (L M : List Nat) (v1 v2 : Value) (w : World) : Prop where
  p : P w L M
  row : Row w gb 39 #[.int .i64 60, v1, v2]
  ref : RefAt w (.agg #[.int .i64 60, v1, v2]) 60 L M
theorem StandAt.keeps {P : World → List Nat → List Nat → Prop} (hP : ∀ {w w' L M}, P w L M → Keeps w w' [] → P w' L M) {gb : Nat} {L M : List Nat} {v1 v2 : Value} {w w' : World} (h : StandAt P gb L M v1 v2 w) (hk : Keeps w w' []) : StandAt P gb L M v1 v2 w' := ⟨hP h.p hk, h.row.keeps hk, h.ref.keeps hk⟩
theorem StandAt.form {P : World → List Nat → List Nat → Prop} {gb : Nat} {L M : List Nat} {v1 v2 : Value} {w : World} (h : StandAt P gb L M v1 v2 w) : ∃ A c B d, v1 = .slice A L.length c ∧ v2 = .slice B M.length d := by
  obtain ⟨A, c, B, d, e, _⟩ := h.ref.e
  injection e with e
  have e := congrArg Array.toList e
  simp only [List.cons.injEq, and_true, true_and] at e
  exact ⟨A, c, B, d, e.1, e.2⟩
theorem RefAt.parts {A B : Option Addr} {c d : Nat} {m : Int} {L M : List Nat} {w : World} (h : RefAt w (.agg #[.int .i64 m, .slice A L.length c, .slice B M.length d]) m L M) : RefL w A L ∧ RefL w B M := by
  obtain ⟨A', c', B', d', e, h1, h2⟩ := h.e
  injection e with e
  have e := congrArg Array.toList e
  simp only [List.cons.injEq, and_true, true_and, Value.slice.injEq] at e
  obtain ⟨⟨rfl, rfl⟩, rfl, rfl⟩ := e
  exact ⟨h1, h2⟩
theorem alike_done {X : Prop} {A B : List Nat} {j : Nat} {al : Bool} (h : al = true ↔ (X ∧ A.take j = B.take j)) (hX : X → A.length = B.length) (hj : j = A.length ∨ al = false) : al = true ↔ (X ∧ A = B) := by
  rcases hj with rfl | rfl
  · rw [h]
    refine and_congr_right fun hx => ?_
    rw [List.take_length, hX hx, List.take_length]
  · simp only [Bool.false_eq_true, false_iff] at h ⊢
    exact fun ⟨hx, e⟩ => h ⟨hx, by rw [e]⟩
theorem alike_step {X : Prop} {A B : List Nat} {j : Nat} (h1 : j < A.length) (h2 : j < B.length) (h : X ∧ A.take j = B.take j) : ((((A[j] : Nat) : Int) == ((B[j] : Nat) : Int)) = true) ↔ (X ∧ A.take (j + 1) = B.take (j + 1)) := by
  obtain ⟨hx, ht⟩ := h
  have hs : (A.take (j + 1) = B.take (j + 1)) ↔ A[j] = B[j] := by
    rw [List.take_succ_eq_append_getElem h1, List.take_succ_eq_append_getElem h2, ht, List.append_cancel_left_eq, List.cons.injEq, and_iff_left rfl]
  rw [hs, beq_iff_eq, Int.natCast_inj, and_iff_right hx]
theorem alike_end {al : Bool} {L L2 M M2 : List Nat} (h : al = true ↔ (((L.length = L2.length ∧ M.length = M2.length) ∧ L = L2) ∧ M = M2)) : decide (60 = 60 ∧ L = L2 ∧ M = M2) = al := by
  rw [Bool.eq_iff_iff, h, decide_eq_true_iff]
  constructor
  · rintro ⟨_, rfl, rfl⟩
    exact ⟨⟨⟨rfl, rfl⟩, rfl⟩, rfl⟩
  · rintro ⟨⟨_, rfl⟩, rfl⟩
    exact ⟨rfl, rfl, rfl⟩
end Go.Proofs.Ytanbdkfkkochgaa

namespace Go.Proofs.Ytanbdkfkkochgaa
open Go.RowKit Go.Maps Go.Shelf

set_option maxRecDepth 100000 in
set_option maxHeartbeats 4000000 in
theorem spaceCopies_far (w : World) (high : Int) (A A0 A1 : Option Addr) (c n c0 n0 c1 n1 : Nat) (z : Int) (hw : IntKind.i64.wrap ((n0 : Int) + n1) = z) (h : (60 : Int) < z ∨ (60 : Int) < n ∨ 50 < high) :
    Calls Try.prog 6 #[.int .i64 high, .slice A n c, .agg #[.slice A0 n0 c0, .slice A1 n1 c1]] w fun e w' => e = .returned (.bool true) ∧ Keeps w w' [] := by
  by_cases h1 : (60 : Int) < z
  · clear h
    go_enter Try.func6, Try.ntmps6
    go_wp2_with fail
    refine (known7_at (Keeps.alloc w _)).mono ?_
    rintro e w' ⟨rfl, hk⟩
    have HK := Lib.hid hk
    clear hk
    go_wp2_with fail
    go_ret
    exact ⟨rfl, HK.out⟩
  · by_cases h2 : (60 : Int) < n
    · clear h
      go_enter Try.func6, Try.ntmps6
      go_wp2_with fail
      refine (known7_at (Keeps.alloc w _)).mono ?_
      rintro e w' ⟨rfl, hk⟩
      have HK := Lib.hid hk
      clear hk
      go_wp2_with fail
      go_ret
      exact ⟨rfl, HK.out⟩
    · have h3 : 50 < high := by omega
      clear h
      go_enter Try.func6, Try.ntmps6
      go_wp2_with fail
      refine (known7_at (Keeps.alloc w _)).mono ?_
      rintro e w' ⟨rfl, hk⟩
      have HK := Lib.hid hk
      clear hk
      go_wp2_with fail
      go_ret
      exact ⟨rfl, HK.out⟩
set_option maxRecDepth 100000 in
set_option maxHeartbeats 4000000 in
theorem spaceCopies_near (w : World) (high : Int) (A A0 A1 : Option Addr) (c c0 c1 : Nat) (free : List Int) (l0 l1 : List (Int × Int)) (hf : CameI w A c free) (ha0 : CameA w A0 c0 l0) (ha1 : CameA w A1 c1 l1) (z : Int) (hw : IntKind.i64.wrap ((l0.length : Int) + l1.length) = z) (h1 : ¬ (60 : Int) < z) (h2 : ¬ (60 : Int) < free.length) (h3 : ¬ 50 < high) :
    Calls Try.prog 6 #[.int .i64 high, .slice A free.length c, .agg #[.slice A0 l0.length c0, .slice A1 l1.length c1]] w fun e w' => e = .returned (.bool true) ∧ Keeps w w' [] := by
  have HF := Lib.hid hf
  have HA0 := Lib.hid ha0
  have HA1 := Lib.hid ha1
  have HL := Lib.hid (show (l0.length : Int) ≤ 9223372036854775807 ∧ (l1.length : Int) ≤ 9223372036854775807 ∧ (free.length : Int) ≤ 60 from by
    have a1 := ha0.le
    have a2 := ha0.cap
    have a3 := ha1.le
    have a4 := ha1.cap
    unfold maxLen at a2 a4
    omega)
  clear hf ha0 ha1
  go_enter Try.func6, Try.ntmps6
  go_wp2_with fail
  obtain ⟨W0, hW0⟩ : ∃ W0, w.alloc (.cells #[.slice A0 l0.length c0, .slice A1 l1.length c1] 50) = W0 := ⟨_, rfl⟩
  have r0 := Row.new w 50 #[.slice A0 l0.length c0, .slice A1 l1.length c1]
  have k0 := Keeps.alloc w (.cells #[.slice A0 l0.length c0, .slice A1 l1.length c1] 50)
  rw [hW0] at r0 k0 ⊢
  have H0 := Lib.hid (And.intro r0 k0)
  clear r0 k0 hW0 h1 h2 h3 hw
  refine (spMake_any W0 60 high A c free (HF.out.lies.keep H0.out.2 (Nat.le_refl _) (by simp) |>.mono H0.out.2.size) (by have := HL.out.2.2; omega)).mono ?_
  cases hO : spNewL 60 high free with
  | none =>
    rintro e w1 ⟨rfl, hk⟩
    have H1 := Lib.hid (H0.out.2.then_ hk)
    clear hk
    go_wp2_with fail
    refine (refNew_any w1 60 high A c free (HF.out.lies.keep H1.out (Nat.le_refl _) (by simp) |>.mono H1.out.size) (by have := HL.out.2.2; omega)).mono ?_
    rw [hO]
    rintro e w2 ⟨hk, rfl⟩
    have H2 := Lib.hid (H1.out.then_ hk)
    clear hk
    go_wp2_with fail
    refine (known7_at (H2.out.then_ (Keeps.alloc _ _))).mono ?_
    rintro e w' ⟨rfl, hk⟩
    have HK := Lib.hid hk
    clear hk
    go_wp2_with fail
    go_ret
    exact ⟨rfl, HK.out⟩
  | some L0 =>
    rintro e w1 ⟨s, n1, n2, rfl, hN⟩
    have HS := Lib.hid (show SpIn W0 w1 s 60 L0 L0 from SpIn.new hN)
    have H1 := Lib.hid (H0.out.2.then_ hN.h)
    clear hN
    go_wp2_with fail
    refine (refNew_any w1 60 high A c free (HF.out.lies.keep H1.out (Nat.le_refl _) (by simp) |>.mono H1.out.size) (by have := HL.out.2.2; omega)).mono ?_
    rw [hO]
    rintro e w2 ⟨hk, g, rfl, hg⟩
    have HS2 := Lib.hid (HS.out.keeps hk)
    obtain ⟨Ag, cg, Bg, dg, rfl, hAg, hBg⟩ := hg.e
    have HG := Lib.hid hg
    clear hk hAg hBg hg hO
    go_wp2_with fail
    obtain ⟨W3, hW3⟩ : ∃ W', w2.alloc (.cells #[.int .i64 60, .slice Ag L0.length cg, .slice Bg L0.length dg] 39) = W' := ⟨_, rfl⟩
    have k3 : Keeps w2 W3 [] := by rw [← hW3]; exact Keeps.alloc _ _
    have r3 : Row W3 w2.heap.size 39 #[.int .i64 60, .slice Ag L0.length cg, .slice Bg L0.length dg] := by rw [← hW3]; exact Row.new _ _ _
    rw [hW3]
    obtain ⟨P, hP⟩ : ∃ P : World → List Nat → List Nat → Prop, P = fun w L M => SpIn W0 w s 60 L M := ⟨_, rfl⟩
    have HSN := Lib.hid (show SpSense W0.heap.size P s 60 by subst hP; exact SpSense.one W0 s 60)
    have HPK := Lib.hid (show ∀ w L M, P w L M → Keeps W0 w [] from fun w L M h => by subst hP; exact SpIn.h h)
    have HPE := Lib.hid hP
    have HP := Lib.hid (show StandAt P w2.heap.size L0 L0 (.slice Ag L0.length cg) (.slice Bg L0.length dg) W3 from ⟨by subst hP; exact HS2.out.keeps k3, r3, HG.out.keeps k3⟩)
    have HBD := Lib.hid (show W0.heap.size ≤ w2.heap.size ∧ W0.heap.size ≤ w2.heap.size ∧ w2.heap.size ≠ s ∧ w.heap.size ≠ s ∧ w.heap.size ≠ w2.heap.size ∧ s < w2.heap.size from by
      have h1 := HS2.out.h.size
      have h2 := HS2.out.lt
      have h3 := HS2.out.f
      have h4 := H0.out.1.lt
      exact ⟨h1, h1, by omega, by omega, by omega, h2⟩)
    clear k3 r3 hW3 hP
    go_loopw [11] (fun i wr => ∃ (k : Nat) (L M : List Nat) (v1 v2 : Value), k ≤ l0.length ∧ i = .int .i64 k ∧ Hid (StandAt P w2.heap.size L M v1 v2 wr)) (fun i _ => l0.length - (intOf i).toNat)
    case atStart => exact ⟨0, L0, L0, _, _, by omega, rfl, HP⟩
    case round =>
      clear HP
      obtain ⟨k, L, M, v1, v2, hk, rfl, HR⟩ := hrel
      have hkm : (l0.length : Int) ≤ 9223372036854775807 := HL.out.1
      have HPS := Lib.hid (show SpIn W0 wr s 60 L M by have e := HPE.out; subst e; exact HR.out.p)
      have rx := H0.out.1.keeps HPS.out.h
      have x0 := rx.cell 0
      have x1 := rx.cell 1
      simp only [List.getElem?_toArray, List.getElem?_cons_zero, List.getElem?_cons_succ] at x0 x1
      by_cases hkl : k < l0.length
      · obtain ⟨b, o, rfl, hb, hcell⟩ := HA0.out.lies (by omega)
        have hc := hcell k hkl
        have hr := HA0.out.r _ (List.getElem_mem hkl)
        obtain ⟨x, y, hxy⟩ : ∃ x y, l0[k] = (x, y) := ⟨_, _, rfl⟩
        rw [hxy] at hc hr
        have HY := Lib.hid hr
        have HZ := Lib.hid (show (L.getD 0 0 = 0 ∧ L.getD 1 0 = 0) ∧ L.length ≤ 100000 from ⟨⟨HPS.out.ok.1.z0, HPS.out.ok.1.z1⟩, by have := HPS.out.ok.1.le; omega⟩)
        have rr := HR.out.row
        have HY0 := Lib.hid (show SpB W0 s w2.heap.size wr from ⟨HPS.out.h, HSN.out.row HR.out.p, ⟨_, _, _, rr⟩⟩)
        obtain ⟨⟨L1, M1⟩, hLM⟩ : ∃ LM, spAct x y 60 L M = LM := ⟨_, rfl⟩
        have HLM := Lib.hid hLM
        have HRR := Lib.hid rr
        have LK : LightK [⟨7, [], [8, 9, 10, 11]⟩, ⟨11, [0, 1, 2, 3, 4, 5, 6, 7, 8, 9], []⟩] (SpC W0 s w2.heap.size) (twoA 7 (SpP P) 11 (RowB w2.heap.size)) := .two SpC.ok (SpP.ok fun h k => HSN.out.keeps h k) RowB.ok
        have HLK := Lib.hid LK
        have MB0 := fun (W' : World) (hR : RowB w2.heap.size wr W') => (hR _ rr).cell 0
        have MB1 := fun (W' : World) (hR : RowB w2.heap.size wr W') => (hR _ rr).cell 1
        have MB2 := fun (W' : World) (hR : RowB w2.heap.size wr W') => (hR _ rr).cell 2
        have MX0 := fun (W' : World) (hC : SpC W0 s w2.heap.size wr W') => (hC.row HBD.out.2.2.2.1 HBD.out.2.2.2.2.1 rx).cell 0
        have MC0 := fun (W' : World) (hC : SpC W0 s w2.heap.size wr W') => ((H0.out.2.then_ (hC.y HY0.out).k).cell (p := ⟨b, o + k * 2, none⟩) hb (by simp)).trans hc.1
        have MC1 := fun (W' : World) (hC : SpC W0 s w2.heap.size wr W') => ((H0.out.2.then_ (hC.y HY0.out).k).cell (p := ⟨b, o + k * 2 + 1, none⟩) hb (by simp)).trans hc.2
        simp only [List.getElem?_toArray, List.getElem?_cons_zero, List.getElem?_cons_succ] at MB0 MB1 MB2 MX0
        clear LK rr rx hc hr hb hcell hxy hLM x1
        go_wp2_with fail
        refine wp_region_writersL [⟨7, [], [8, 9, 10, 11]⟩, ⟨11, [0, 1, 2, 3, 4, 5, 6, 7, 8, 9], []⟩] (SpC W0 s w2.heap.size) (twoA 7 (SpP P) 11 (RowB w2.heap.size)) _ 12 HLK.out (by kernel_rfl) rfl (by kernel_rfl) ?_
        simp only [List.take_succ_cons, List.take_zero, List.drop_succ_cons, List.drop_zero]
        apply loosek_is 0 _ rfl
        · intro W vals hW hkn
          clear hkn
          have hC := hW.c
          refine ⟨?_⟩
          simp only [fill]
          go_simp
          first | exact ⟨HLK.out.stp (Keeps.refl _ _), rfl⟩ | exact ⟨HLK.out.stp (Keeps.alloc _ _), rfl⟩
        simp only [addEnt]
        apply loosek_is 1 _ rfl
        · intro W vals hW hkn
          have hC := hW.c
          simp only [knowsK] at hkn
          try simp only [and_true] at hkn
          clear hkn; have hR := PreK.two2 hW (by decide) (.inr (by decide))
          refine ⟨?_⟩
          simp only [fill]
          go_simp
          first | exact ⟨HLK.out.stp (Keeps.refl _ _), rfl⟩ | exact ⟨HLK.out.stp (Keeps.alloc _ _), rfl⟩
        simp only [addEnt]
        apply loosek_is 2 _ rfl
        · intro W vals hW hkn
          clear hkn
          have hC := hW.c
          refine ⟨?_⟩
          simp only [fill]
          go_simp
          first | exact ⟨HLK.out.stp (Keeps.refl _ _), rfl⟩ | exact ⟨HLK.out.stp (Keeps.alloc _ _), rfl⟩
        simp only [addEnt]
        apply loosek_is 3 _ rfl
        · intro W vals hW hkn
          clear hkn
          have hC := hW.c
          refine ⟨?_⟩
          simp only [fill]
          go_simp
          first | exact ⟨HLK.out.stp (Keeps.refl _ _), rfl⟩ | exact ⟨HLK.out.stp (Keeps.alloc _ _), rfl⟩
        simp only [addEnt]
        apply loosek_is 4 _ rfl
        · intro W vals hW hkn
          clear hkn
          have hC := hW.c
          refine ⟨?_⟩
          simp only [fill]
          go_simp
          first | exact ⟨HLK.out.stp (Keeps.refl _ _), rfl⟩ | exact ⟨HLK.out.stp (Keeps.alloc _ _), rfl⟩
        simp only [addEnt]
        apply loosek_is 5 _ rfl
        · intro W vals hW hkn
          clear hkn
          have hC := hW.c
          refine ⟨?_⟩
          simp only [fill]
          go_simp
          first | exact ⟨HLK.out.stp (Keeps.refl _ _), rfl⟩ | exact ⟨HLK.out.stp (Keeps.alloc _ _), rfl⟩
        simp only [addEnt]
        apply loosek_is 6 _ rfl
        · intro W vals hW hkn
          clear hkn
          have hC := hW.c
          refine ⟨?_⟩
          simp only [fill]
          go_simp
          first | exact ⟨HLK.out.stp (Keeps.refl _ _), rfl⟩ | exact ⟨HLK.out.stp (Keeps.alloc _ _), rfl⟩
        simp only [addEnt]
        refine loosek_has 7 (DoneAt P L1 M1) rfl (fun W vals hW hkn φ' hφ => ?_) ?_
        · have hC := hW.c
          simp only [knowsK] at hkn
          try simp only [and_true] at hkn
          clear hkn
          refine ⟨?_⟩
          simp only [fill]
          go_simp
          ((with_reducible refine loosek_writes HLK.out hφ ?_); refine (does60 HSN.out W L M (PreK.two1 hW (.inl rfl) L M HR.out.p) _ (HR.out.ref.spc hC HY0.out) HZ.out.1 HZ.out.2 x y HY.out).mono ?_; rw [HLM.out]; rintro e w5 ⟨v, rfl, h1, h2⟩; obtain ⟨A5, n5, c5, B5, l5, d5, rfl, h3, h4⟩ := h1; exact ⟨_, rfl, does_stp (hC.y HY0.out) h2 (HPK.out _ _ _ h4) (HSN.out.row h4) HBD.out.2.2.1, A5, n5, c5, B5, l5, d5, rfl, h3, h4⟩)
        simp only [addEnt]
        refine loosek_has 8 (fun v W' => ∃ A n c B l d, v = .tuple #[refV A n c B l d, .bool true] ∧ RefAt W' (refV A n c B l d) 60 L1 M1) rfl (fun W vals hW hkn φ' hφ => ?_) ?_
        · have hC := hW.c
          simp only [knowsK] at hkn
          try simp only [and_true] at hkn
          obtain ⟨W1, h0, h1, A5, n5, c5, B5, l5, d5, hv, hg, _⟩ := hkn (by decide); clear hkn; have hgW := RefAt.spc hg h1.c (h0.c.y HY0.out)
          refine ⟨?_⟩
          simp only [fill]
          go_simp
          exact ⟨HLK.out.stp (Keeps.refl _ _), hφ.out _ _ ⟨A5, n5, c5, B5, l5, d5, rfl, hgW⟩⟩
        simp only [addEnt]
        refine loosek_has 9 (fun v W' => ∃ A n c B l d, v = refV A n c B l d ∧ RefAt W' (refV A n c B l d) 60 L1 M1) rfl (fun W vals hW hkn φ' hφ => ?_) ?_
        · have hC := hW.c
          simp only [knowsK] at hkn
          try simp only [and_true] at hkn
          obtain ⟨W1, h0, h1, A5, n5, c5, B5, l5, d5, hv, hg⟩ := hkn.1 (by decide); clear hkn; have hgW := RefAt.spc hg h1.c (h0.c.y HY0.out)
          refine ⟨?_⟩
          simp only [fill]
          go_simp
          exact ⟨HLK.out.stp (Keeps.refl _ _), hφ.out _ _ ⟨A5, n5, c5, B5, l5, d5, rfl, hgW⟩⟩
        simp only [addEnt]
        apply loosek_is 10 _ rfl
        · intro W vals hW hkn
          have hC := hW.c
          simp only [knowsK] at hkn
          try simp only [and_true] at hkn
          obtain ⟨W1, h0, h1, A5, n5, c5, B5, l5, d5, hv, hg⟩ := hkn.2.1 (by decide); clear hkn h0 h1 hg
          refine ⟨?_⟩
          simp only [fill]
          go_simp
          first | exact ⟨HLK.out.stp (Keeps.refl _ _), rfl⟩ | exact ⟨HLK.out.stp (Keeps.alloc _ _), rfl⟩
        simp only [addEnt]
        refine loosek_has 11 (fun _ W' => ∃ A n c B l d, Row W' w2.heap.size 39 #[.int .i64 60, .slice A n c, .slice B l d] ∧ RefAt W' (refV A n c B l d) 60 L1 M1) rfl (fun W vals hW hkn φ' hφ => ?_) ?_
        · have hC := hW.c
          simp only [knowsK] at hkn
          try simp only [and_true] at hkn
          obtain ⟨W1, h0, h1, A5, n5, c5, B5, l5, d5, hv, hg⟩ := hkn.1 (by decide); clear hkn; have HGW := Lib.hid (RefAt.spc hg h1.c (h0.c.y HY0.out)); have hR := PreK.two2 hW (by decide) (.inl rfl) _ HRR.out; have HRW := Lib.hid hR; have HYW := Lib.hid (hC.y HY0.out); have f0 := hR.cell 0; have f1 := hR.cell 1; have f2 := hR.cell 2; have f3 := hR.frozen 0; have f4 := hR.frozen 1; have f5 := hR.frozen 2; simp only [List.getElem?_toArray, List.getElem?_cons_zero, List.getElem?_cons_succ, refV] at f0 f1 f2 hv; clear hR h0 h1 hg hC hW
          refine ⟨?_⟩
          simp only [fill]
          go_simp
          exact ⟨put_stp HSN.out HYW.out HRW.out HBD.out.1 HBD.out.2.1, hφ.out _ _ ⟨A5, n5, c5, B5, l5, d5, (ref_put HRW.out _ _ _).1, HGW.out.box (ref_put HRW.out _ _ _).2 (fun y hy => by obtain rfl := List.mem_singleton.1 hy; exact ⟨_, HRW.out⟩)⟩⟩
        simp only [addEnt]
        refine loosek_nil (fun W9 vals hW hkn => ?_)
        simp only [knowsAllK] at hkn
        try simp only [and_true] at hkn
        simp only [fill, Act.put, List.setIfInBounds_toArray, List.set_cons_succ, List.set_cons_zero]
        obtain ⟨⟨_, Wa, a1, a2, A9, n9, c9, B9, l9, d9, hr9, hg9⟩, -, -, Wb, b1, b2, _, _, _, _, _, _, -, -, hp9⟩ := hkn
        have HQ := Lib.hid (show StandAt P w2.heap.size L1 M1 (.slice A9 n9 c9) (.slice B9 l9 d9) W9 from ⟨PostK.two1 b2 (.inl rfl) _ _ hp9, PostK.two2 a2 (by decide) (.inl rfl) _ hr9, RefAt.spc hg9 a2.c (a1.c.y HY0.out)⟩)
        have HQC := Lib.hid hW
        clear a1 a2 hr9 hg9 b1 b2 hp9 hW
        clear MB0 MB1 MB2 MX0 MC0 MC1
        go_wp2_with fail
        exact ⟨⟨k + 1, L1, M1, _, _, by omega, by go_num, HQ⟩, by simp [intOf]; omega⟩
      · obtain rfl : k = l0.length := by omega
        obtain ⟨Av, cv, Bv, dv, rfl, rfl⟩ := HR.out.form
        go_wp2_with fail
        refine (spCopy_sp HPS.out).mono ?_
        rintro e w4 ⟨t, rfl, h, hk4⟩
        have HT := Lib.hid (SpTwo.of_copy HPS.out h)
        have HRG := Lib.hid (And.intro (HR.out.row.keeps hk4) (HR.out.ref.keeps hk4))
        have HNE := Lib.hid (show w2.heap.size ≠ t ∧ w.heap.size ≠ t ∧ w2.heap.size < w4.heap.size ∧ w.heap.size < w4.heap.size ∧ t < w4.heap.size ∧ W0.heap.size ≤ w4.heap.size from by
          have h1 := h.f
          have h2 := HR.out.row.lt
          have h3 := rx.lt
          have h4 := h.lt
          have h5 := hk4.size
          have h6 := HPS.out.h.size
          exact ⟨by omega, by omega, by omega, by omega, h4, by omega⟩)
        have qg := HRG.out.1
        have b0 := qg.cell 0
        have b1 := qg.cell 1
        have b2 := qg.cell 2
        simp only [List.getElem?_toArray, List.getElem?_cons_zero, List.getElem?_cons_succ] at b0 b1 b2
        clear qg h hk4 rx x0 x1
        go_wp2_with fail
        obtain ⟨W5, hW5⟩ : ∃ W', w4.alloc (.cells #[.int .i64 60, .slice Av L.length cv, .slice Bv M.length dv] 39) = W' := ⟨_, rfl⟩
        have k5 : Keeps w4 W5 [] := by rw [← hW5]; exact Keeps.alloc _ _
        have r5 : Row W5 w4.heap.size 39 #[.int .i64 60, .slice Av L.length cv, .slice Bv M.length dv] := by rw [← hW5]; exact Row.new _ _ _
        rw [hW5]
        obtain ⟨P2, hP2⟩ : ∃ P2 : World → List Nat → List Nat → Prop, P2 = fun w L2 M2 => SpTwo W0 w t s 60 L2 M2 60 L M := ⟨_, rfl⟩
        have HSN2 := Lib.hid (show SpSense W0.heap.size P2 t 60 by subst hP2; exact SpSense.two W0 t 60 s 60 L M)
        have HPK2 := Lib.hid (show ∀ w L M, P2 w L M → Keeps W0 w [] from fun w L M h => by subst hP2; exact SpTwo.h h)
        have HPE2 := Lib.hid hP2
        have HP2 := Lib.hid (show StandAt P2 w4.heap.size L M (.slice Av L.length cv) (.slice Bv M.length dv) W5 from ⟨by subst hP2; exact HT.out.swap.keeps k5, r5, HRG.out.2.keeps k5⟩)
        have HRG5 := Lib.hid (And.intro (HRG.out.1.keeps k5) (HRG.out.2.keeps k5))
        have HBD2 := Lib.hid (show W0.heap.size ≤ w4.heap.size ∧ W0.heap.size ≤ w4.heap.size ∧ w4.heap.size ≠ t ∧ w.heap.size ≠ t ∧ w.heap.size ≠ w4.heap.size ∧ w2.heap.size ≠ t ∧ w2.heap.size ≠ w4.heap.size from by
          have h := HNE.out
          exact ⟨h.2.2.2.2.2, h.2.2.2.2.2, by omega, h.2.1, by omega, h.1, by omega⟩)
        clear k5 r5 hW5 hP2 HRG
        go_loopw [14] (fun i wr => ∃ (k : Nat) (L2 M2 : List Nat) (v3 v4 : Value), k ≤ l1.length ∧ i = .int .i64 k ∧ Hid (StandAt P2 w4.heap.size L2 M2 v3 v4 wr) ∧ Hid (Row wr w2.heap.size 39 #[.int .i64 60, .slice Av L.length cv, .slice Bv M.length dv] ∧ RefAt wr (.agg #[.int .i64 60, .slice Av L.length cv, .slice Bv M.length dv]) 60 L M)) (fun i _ => l1.length - (intOf i).toNat)
        case atStart => exact ⟨0, L, M, _, _, by omega, rfl, HP2, HRG5⟩
        case round =>
          clear HP2 HRG5 HR HSN HPK HPE hkm
          obtain ⟨k, L2, M2, v3, v4, hk, rfl, HR, HGK⟩ := hrel
          have hkm : (l1.length : Int) ≤ 9223372036854775807 := HL.out.2.1
          have HPS2 := Lib.hid (show SpTwo W0 wr t s 60 L2 M2 60 L M by have e := HPE2.out; subst e; exact HR.out.p)
          have rx := H0.out.1.keeps HPS2.out.h
          have x1 := rx.cell 1
          simp only [List.getElem?_toArray, List.getElem?_cons_zero, List.getElem?_cons_succ] at x1
          by_cases hkl : k < l1.length
          · obtain ⟨b, o, rfl, hb, hcell⟩ := HA1.out.lies (by omega)
            have hc := hcell k hkl
            have hr := HA1.out.r _ (List.getElem_mem hkl)
            obtain ⟨x, y, hxy⟩ : ∃ x y, l1[k] = (x, y) := ⟨_, _, rfl⟩
            rw [hxy] at hc hr
            have HY := Lib.hid hr
            have HZ := Lib.hid (show (L2.getD 0 0 = 0 ∧ L2.getD 1 0 = 0) ∧ L2.length ≤ 100000 from ⟨⟨HPS2.out.one.ok.1.z0, HPS2.out.one.ok.1.z1⟩, by have := HPS2.out.one.ok.1.le; omega⟩)
            have rr := HR.out.row
            have HY0 := Lib.hid (show SpB W0 t w4.heap.size wr from ⟨HPS2.out.h, HSN2.out.row HR.out.p, ⟨_, _, _, rr⟩⟩)
            obtain ⟨⟨L1, M1⟩, hLM⟩ : ∃ LM, spAct x y 60 L2 M2 = LM := ⟨_, rfl⟩
            have HLM := Lib.hid hLM
            have HRR := Lib.hid rr
            have LK : LightK [⟨7, [], [8, 9, 10, 11]⟩, ⟨11, [0, 1, 2, 3, 4, 5, 6, 7, 8, 9], []⟩] (SpC W0 t w4.heap.size) (twoA 7 (SpP P2) 11 (RowB w4.heap.size)) := .two SpC.ok (SpP.ok fun h k => HSN2.out.keeps h k) RowB.ok
            have HLK := Lib.hid LK
            have MB0 := fun (W' : World) (hR : RowB w4.heap.size wr W') => (hR _ rr).cell 0
            have MB1 := fun (W' : World) (hR : RowB w4.heap.size wr W') => (hR _ rr).cell 1
            have MB2 := fun (W' : World) (hR : RowB w4.heap.size wr W') => (hR _ rr).cell 2
            have MX0 := fun (W' : World) (hC : SpC W0 t w4.heap.size wr W') => (hC.row HBD2.out.2.2.2.1 HBD2.out.2.2.2.2.1 rx).cell 1
            have MC0 := fun (W' : World) (hC : SpC W0 t w4.heap.size wr W') => ((H0.out.2.then_ (hC.y HY0.out).k).cell (p := ⟨b, o + k * 2, none⟩) hb (by simp)).trans hc.1
            have MC1 := fun (W' : World) (hC : SpC W0 t w4.heap.size wr W') => ((H0.out.2.then_ (hC.y HY0.out).k).cell (p := ⟨b, o + k * 2 + 1, none⟩) hb (by simp)).trans hc.2
            simp only [List.getElem?_toArray, List.getElem?_cons_zero, List.getElem?_cons_succ] at MB0 MB1 MB2 MX0
            clear LK rr rx hc hr hb hcell hxy hLM
            go_wp2_with fail
            refine wp_region_writersL [⟨7, [], [8, 9, 10, 11]⟩, ⟨11, [0, 1, 2, 3, 4, 5, 6, 7, 8, 9], []⟩] (SpC W0 t w4.heap.size) (twoA 7 (SpP P2) 11 (RowB w4.heap.size)) _ 12 HLK.out (by kernel_rfl) rfl (by kernel_rfl) ?_
            simp only [List.take_succ_cons, List.take_zero, List.drop_succ_cons, List.drop_zero]
            apply loosek_is 0 _ rfl
            · intro W vals hW hkn
              clear hkn
              have hC := hW.c
              refine ⟨?_⟩
              simp only [fill]
              go_simp
              first | exact ⟨HLK.out.stp (Keeps.refl _ _), rfl⟩ | exact ⟨HLK.out.stp (Keeps.alloc _ _), rfl⟩
            simp only [addEnt]
            apply loosek_is 1 _ rfl
            · intro W vals hW hkn
              have hC := hW.c
              simp only [knowsK] at hkn
              try simp only [and_true] at hkn
              clear hkn; have hR := PreK.two2 hW (by decide) (.inr (by decide))
              refine ⟨?_⟩
              simp only [fill]
              go_simp
              first | exact ⟨HLK.out.stp (Keeps.refl _ _), rfl⟩ | exact ⟨HLK.out.stp (Keeps.alloc _ _), rfl⟩
            simp only [addEnt]
            apply loosek_is 2 _ rfl
            · intro W vals hW hkn
              clear hkn
              have hC := hW.c
              refine ⟨?_⟩
              simp only [fill]
              go_simp
              first | exact ⟨HLK.out.stp (Keeps.refl _ _), rfl⟩ | exact ⟨HLK.out.stp (Keeps.alloc _ _), rfl⟩
            simp only [addEnt]
            apply loosek_is 3 _ rfl
            · intro W vals hW hkn
              clear hkn
              have hC := hW.c
              refine ⟨?_⟩
              simp only [fill]
              go_simp
              first | exact ⟨HLK.out.stp (Keeps.refl _ _), rfl⟩ | exact ⟨HLK.out.stp (Keeps.alloc _ _), rfl⟩
            simp only [addEnt]
            apply loosek_is 4 _ rfl
            · intro W vals hW hkn
              clear hkn
              have hC := hW.c
              refine ⟨?_⟩
              simp only [fill]
              go_simp
              first | exact ⟨HLK.out.stp (Keeps.refl _ _), rfl⟩ | exact ⟨HLK.out.stp (Keeps.alloc _ _), rfl⟩
            simp only [addEnt]
            apply loosek_is 5 _ rfl
            · intro W vals hW hkn
              clear hkn
              have hC := hW.c
              refine ⟨?_⟩
              simp only [fill]
              go_simp
              first | exact ⟨HLK.out.stp (Keeps.refl _ _), rfl⟩ | exact ⟨HLK.out.stp (Keeps.alloc _ _), rfl⟩
            simp only [addEnt]
            apply loosek_is 6 _ rfl
            · intro W vals hW hkn
              clear hkn
              have hC := hW.c
              refine ⟨?_⟩
              simp only [fill]
              go_simp
              first | exact ⟨HLK.out.stp (Keeps.refl _ _), rfl⟩ | exact ⟨HLK.out.stp (Keeps.alloc _ _), rfl⟩
            simp only [addEnt]
            refine loosek_has 7 (DoneAt P2 L1 M1) rfl (fun W vals hW hkn φ' hφ => ?_) ?_
            · have hC := hW.c
              simp only [knowsK] at hkn
              try simp only [and_true] at hkn
              clear hkn
              refine ⟨?_⟩
              simp only [fill]
              go_simp
              ((with_reducible refine loosek_writes HLK.out hφ ?_); refine (does60 HSN2.out W L2 M2 (PreK.two1 hW (.inl rfl) L2 M2 HR.out.p) _ (HR.out.ref.spc hC HY0.out) HZ.out.1 HZ.out.2 x y HY.out).mono ?_; rw [HLM.out]; rintro e w5 ⟨v, rfl, h1, h2⟩; obtain ⟨A5, n5, c5, B5, l5, d5, rfl, h3, h4⟩ := h1; exact ⟨_, rfl, does_stp (hC.y HY0.out) h2 (HPK2.out _ _ _ h4) (HSN2.out.row h4) HBD2.out.2.2.1, A5, n5, c5, B5, l5, d5, rfl, h3, h4⟩)
            simp only [addEnt]
            refine loosek_has 8 (fun v W' => ∃ A n c B l d, v = .tuple #[refV A n c B l d, .bool true] ∧ RefAt W' (refV A n c B l d) 60 L1 M1) rfl (fun W vals hW hkn φ' hφ => ?_) ?_
            · have hC := hW.c
              simp only [knowsK] at hkn
              try simp only [and_true] at hkn
              obtain ⟨W1, h0, h1, A5, n5, c5, B5, l5, d5, hv, hg, _⟩ := hkn (by decide); clear hkn; have hgW := RefAt.spc hg h1.c (h0.c.y HY0.out)
              refine ⟨?_⟩
              simp only [fill]
              go_simp
              exact ⟨HLK.out.stp (Keeps.refl _ _), hφ.out _ _ ⟨A5, n5, c5, B5, l5, d5, rfl, hgW⟩⟩
            simp only [addEnt]
            refine loosek_has 9 (fun v W' => ∃ A n c B l d, v = refV A n c B l d ∧ RefAt W' (refV A n c B l d) 60 L1 M1) rfl (fun W vals hW hkn φ' hφ => ?_) ?_
            · have hC := hW.c
              simp only [knowsK] at hkn
              try simp only [and_true] at hkn
              obtain ⟨W1, h0, h1, A5, n5, c5, B5, l5, d5, hv, hg⟩ := hkn.1 (by decide); clear hkn; have hgW := RefAt.spc hg h1.c (h0.c.y HY0.out)
              refine ⟨?_⟩
              simp only [fill]
              go_simp
              exact ⟨HLK.out.stp (Keeps.refl _ _), hφ.out _ _ ⟨A5, n5, c5, B5, l5, d5, rfl, hgW⟩⟩
            simp only [addEnt]
            apply loosek_is 10 _ rfl
            · intro W vals hW hkn
              have hC := hW.c
              simp only [knowsK] at hkn
              try simp only [and_true] at hkn
              obtain ⟨W1, h0, h1, A5, n5, c5, B5, l5, d5, hv, hg⟩ := hkn.2.1 (by decide); clear hkn h0 h1 hg
              refine ⟨?_⟩
              simp only [fill]
              go_simp
              first | exact ⟨HLK.out.stp (Keeps.refl _ _), rfl⟩ | exact ⟨HLK.out.stp (Keeps.alloc _ _), rfl⟩
            simp only [addEnt]
            refine loosek_has 11 (fun _ W' => ∃ A n c B l d, Row W' w4.heap.size 39 #[.int .i64 60, .slice A n c, .slice B l d] ∧ RefAt W' (refV A n c B l d) 60 L1 M1) rfl (fun W vals hW hkn φ' hφ => ?_) ?_
            · have hC := hW.c
              simp only [knowsK] at hkn
              try simp only [and_true] at hkn
              obtain ⟨W1, h0, h1, A5, n5, c5, B5, l5, d5, hv, hg⟩ := hkn.1 (by decide); clear hkn; have HGW := Lib.hid (RefAt.spc hg h1.c (h0.c.y HY0.out)); have hR := PreK.two2 hW (by decide) (.inl rfl) _ HRR.out; have HRW := Lib.hid hR; have HYW := Lib.hid (hC.y HY0.out); have f0 := hR.cell 0; have f1 := hR.cell 1; have f2 := hR.cell 2; have f3 := hR.frozen 0; have f4 := hR.frozen 1; have f5 := hR.frozen 2; simp only [List.getElem?_toArray, List.getElem?_cons_zero, List.getElem?_cons_succ, refV] at f0 f1 f2 hv; clear hR h0 h1 hg hC hW
              refine ⟨?_⟩
              simp only [fill]
              go_simp
              exact ⟨put_stp HSN2.out HYW.out HRW.out HBD2.out.1 HBD2.out.2.1, hφ.out _ _ ⟨A5, n5, c5, B5, l5, d5, (ref_put HRW.out _ _ _).1, HGW.out.box (ref_put HRW.out _ _ _).2 (fun y hy => by obtain rfl := List.mem_singleton.1 hy; exact ⟨_, HRW.out⟩)⟩⟩
            simp only [addEnt]
            refine loosek_nil (fun W9 vals hW hkn => ?_)
            simp only [knowsAllK] at hkn
            try simp only [and_true] at hkn
            simp only [fill, Act.put, List.setIfInBounds_toArray, List.set_cons_succ, List.set_cons_zero]
            obtain ⟨⟨_, Wa, a1, a2, A9, n9, c9, B9, l9, d9, hr9, hg9⟩, -, -, Wb, b1, b2, _, _, _, _, _, _, -, -, hp9⟩ := hkn
            have HQ := Lib.hid (show StandAt P2 w4.heap.size L1 M1 (.slice A9 n9 c9) (.slice B9 l9 d9) W9 from ⟨PostK.two1 b2 (.inl rfl) _ _ hp9, PostK.two2 a2 (by decide) (.inl rfl) _ hr9, RefAt.spc hg9 a2.c (a1.c.y HY0.out)⟩)
            have HQC := Lib.hid hW
            clear a1 a2 hr9 hg9 b1 b2 hp9 hW
            clear MB0 MB1 MB2 MX0 MC0 MC1
            have HGK2 := Lib.hid (And.intro (HQC.out.row HBD2.out.2.2.2.2.2.1 HBD2.out.2.2.2.2.2.2 HGK.out.1) (RefAt.spc HGK.out.2 HQC.out HY0.out))
            go_wp2_with fail
            exact ⟨⟨k + 1, L1, M1, _, _, by omega, by go_num, HQ, HGK2⟩, by simp [intOf]; omega⟩
          · obtain rfl : k = l1.length := by omega
            obtain ⟨Ao, co, Bo, do', rfl, rfl⟩ := HR.out.form
            have HOK := Lib.hid (show (L.length : Int) ≤ 4096 ∧ (M.length : Int) ≤ 4096 ∧ (L2.length : Int) ≤ 4096 ∧ (M2.length : Int) ≤ 4096 from by
              have h1 := HPS2.out.one.ok
              have h2 := HPS2.out.swap.one.ok
              have a := h1.1.le
              have b := h1.2.1.le
              have c := h2.1.le
              have d := h2.2.1.le
              exact ⟨by omega, by omega, by omega, by omega⟩)
            have qg := HGK.out.1
            have qo := HR.out.row
            have b0 := qg.cell 0
            have b1 := qg.cell 1
            have b2 := qg.cell 2
            simp only [List.getElem?_toArray, List.getElem?_cons_zero, List.getElem?_cons_succ] at b0 b1 b2
            have p0 := qo.cell 0
            have p1 := qo.cell 1
            have p2 := qo.cell 2
            simp only [List.getElem?_toArray, List.getElem?_cons_zero, List.getElem?_cons_succ] at p0 p1 p2
            clear qg qo rx
            go_wp2_with fail
            refine (same_any HPS2.out.swap.one _ 60 M HGK.out.2).mono ?_
            rintro e w6 ⟨rfl, hk6⟩
            have X6 := Lib.hid (And.intro (HPS2.out.keeps hk6) (And.intro (HGK.out.1.keeps hk6) (And.intro (HGK.out.2.keeps hk6) (And.intro (HR.out.row.keeps hk6) (HR.out.ref.keeps hk6)))))
            have qg := X6.out.2.1
            have qo := X6.out.2.2.2.1
            have b0 := qg.cell 0
            have b1 := qg.cell 1
            have b2 := qg.cell 2
            simp only [List.getElem?_toArray, List.getElem?_cons_zero, List.getElem?_cons_succ] at b0 b1 b2
            have p0 := qo.cell 0
            have p1 := qo.cell 1
            have p2 := qo.cell 2
            simp only [List.getElem?_toArray, List.getElem?_cons_zero, List.getElem?_cons_succ] at p0 p1 p2
            clear qg qo hk6
            go_wp2_with fail
            refine (same_any X6.out.1.one _ 60 M2 X6.out.2.2.2.2).mono ?_
            rintro e w7 ⟨rfl, hk7⟩
            have X7 := Lib.hid (And.intro (X6.out.1.keeps hk7) (And.intro (X6.out.2.1.keeps hk7) (And.intro (X6.out.2.2.1.keeps hk7) (And.intro (X6.out.2.2.2.1.keeps hk7) (X6.out.2.2.2.2.keeps hk7)))))
            have qg := X7.out.2.1
            have qo := X7.out.2.2.2.1
            have b0 := qg.cell 0
            have b1 := qg.cell 1
            have b2 := qg.cell 2
            simp only [List.getElem?_toArray, List.getElem?_cons_zero, List.getElem?_cons_succ] at b0 b1 b2
            have p0 := qo.cell 0
            have p1 := qo.cell 1
            have p2 := qo.cell 2
            simp only [List.getElem?_toArray, List.getElem?_cons_zero, List.getElem?_cons_succ] at p0 p1 p2
            clear qg qo hk7
            go_wp2_with fail
            refine (spCopy_sp X7.out.1.swap.one).mono ?_
            rintro e w8 ⟨u, rfl, hu, hk8⟩
            have HU := Lib.hid (And.intro hu (And.intro (X7.out.1.swap.one.keeps hk8) (X7.out.1.keeps hk8)))
            have X8 := Lib.hid (And.intro (X7.out.1.keeps hk8) (And.intro (X7.out.2.1.keeps hk8) (And.intro (X7.out.2.2.1.keeps hk8) (And.intro (X7.out.2.2.2.1.keeps hk8) (X7.out.2.2.2.2.keeps hk8)))))
            have qg := X8.out.2.1
            have qo := X8.out.2.2.2.1
            have b0 := qg.cell 0
            have b1 := qg.cell 1
            have b2 := qg.cell 2
            simp only [List.getElem?_toArray, List.getElem?_cons_zero, List.getElem?_cons_succ] at b0 b1 b2
            have p0 := qo.cell 0
            have p1 := qo.cell 1
            have p2 := qo.cell 2
            simp only [List.getElem?_toArray, List.getElem?_cons_zero, List.getElem?_cons_succ] at p0 p1 p2
            clear qg qo hk8
            clear hu
            go_wp2_with fail
            refine (spSame_sp HU.out.2.1 HU.out.1).mono ?_
            rw [decide_eq_true (show 60 = 60 ∧ L = L ∧ M = M from ⟨rfl, rfl, rfl⟩)]
            rintro e w9 ⟨rfl, hk9⟩
            have X9 := Lib.hid (And.intro (X8.out.1.keeps hk9) (And.intro (X8.out.2.1.keeps hk9) (And.intro (X8.out.2.2.1.keeps hk9) (And.intro (X8.out.2.2.2.1.keeps hk9) (X8.out.2.2.2.2.keeps hk9)))))
            have qg := X9.out.2.1
            have qo := X9.out.2.2.2.1
            have b0 := qg.cell 0
            have b1 := qg.cell 1
            have b2 := qg.cell 2
            simp only [List.getElem?_toArray, List.getElem?_cons_zero, List.getElem?_cons_succ] at b0 b1 b2
            have p0 := qo.cell 0
            have p1 := qo.cell 1
            have p2 := qo.cell 2
            simp only [List.getElem?_toArray, List.getElem?_cons_zero, List.getElem?_cons_succ] at p0 p1 p2
            clear qg qo hk9
            go_wp2_with fail
            refine (spSame_no X9.out.1.swap.one (.inl rfl)).mono ?_
            rintro e wA ⟨rfl, hkA⟩
            have XA := Lib.hid (And.intro (X9.out.1.keeps hkA) (And.intro (X9.out.2.1.keeps hkA) (And.intro (X9.out.2.2.1.keeps hkA) (And.intro (X9.out.2.2.2.1.keeps hkA) (X9.out.2.2.2.2.keeps hkA)))))
            have qg := XA.out.2.1
            have qo := XA.out.2.2.2.1
            have b0 := qg.cell 0
            have b1 := qg.cell 1
            have b2 := qg.cell 2
            simp only [List.getElem?_toArray, List.getElem?_cons_zero, List.getElem?_cons_succ] at b0 b1 b2
            have p0 := qo.cell 0
            have p1 := qo.cell 1
            have p2 := qo.cell 2
            simp only [List.getElem?_toArray, List.getElem?_cons_zero, List.getElem?_cons_succ] at p0 p1 p2
            clear qg qo hkA
            clear X6 X7 X8 X9 HU HGK HR
            have qg := XA.out.2.1
            have qo := XA.out.2.2.2.1
            have b0 := qg.cell 0
            have b1 := qg.cell 1
            have b2 := qg.cell 2
            simp only [List.getElem?_toArray, List.getElem?_cons_zero, List.getElem?_cons_succ] at b0 b1 b2
            have p0 := qo.cell 0
            have p1 := qo.cell 1
            have p2 := qo.cell 2
            simp only [List.getElem?_toArray, List.getElem?_cons_zero, List.getElem?_cons_succ] at p0 p1 p2
            clear qg qo
            by_cases e1 : (L.length : Int) = L2.length
            · have HA3 := Lib.hid (show (((M.length : Int) == M2.length) = true) ↔ ((L.length = L2.length ∧ M.length = M2.length) ∧ L.take 0 = L2.take 0) by simp; omega)
              go_wp2_with fail
              go_loopw [15, 16] (fun a i wz => ∃ (j : Nat) (al : Bool), a = .bool al ∧ i = .int .i64 j ∧ j ≤ L.length ∧ Hid (al = true ↔ ((L.length = L2.length ∧ M.length = M2.length) ∧ L.take j = L2.take j)) ∧ Hid (Keeps wA wz [])) (fun _ i _ => L.length - (intOf i).toNat)
              case atStart => exact ⟨0, _, rfl, rfl, Nat.zero_le _, HA3, Lib.hid (Keeps.refl _ _)⟩
              case round =>
                clear HA3
                have hLb := HOK.out.1
                obtain ⟨j, al, rfl, rfl, hj, HAL, HZ⟩ := hrel
                have qg := XA.out.2.1.keeps HZ.out
                have qo := XA.out.2.2.2.1.keeps HZ.out
                have b0 := qg.cell 0
                have b1 := qg.cell 1
                have b2 := qg.cell 2
                simp only [List.getElem?_toArray, List.getElem?_cons_zero, List.getElem?_cons_succ] at b0 b1 b2
                have p0 := qo.cell 0
                have p1 := qo.cell 1
                have p2 := qo.cell 2
                simp only [List.getElem?_toArray, List.getElem?_cons_zero, List.getElem?_cons_succ] at p0 p1 p2
                have MG0 := fun (W' : World) (hW : Keeps _ W' []) => (qg.keeps hW).cell 0
                have MG1 := fun (W' : World) (hW : Keeps _ W' []) => (qg.keeps hW).cell 1
                have MG2 := fun (W' : World) (hW : Keeps _ W' []) => (qg.keeps hW).cell 2
                simp only [List.getElem?_toArray, List.getElem?_cons_zero, List.getElem?_cons_succ] at MG0 MG1 MG2
                have MO0 := fun (W' : World) (hW : Keeps _ W' []) => (qo.keeps hW).cell 0
                have MO1 := fun (W' : World) (hW : Keeps _ W' []) => (qo.keeps hW).cell 1
                have MO2 := fun (W' : World) (hW : Keeps _ W' []) => (qo.keeps hW).cell 2
                simp only [List.getElem?_toArray, List.getElem?_cons_zero, List.getElem?_cons_succ] at MO0 MO1 MO2
                clear qg qo
                by_cases hjl : j < L.length
                · cases al with
                  | true =>
                    have HALx := Lib.hid (HAL.out.1 rfl)
                    have hjl2 : j < L2.length := by have := HALx.out.1; omega
                    clear HAL
                    obtain ⟨ba, oa, ea, hba, hca⟩ := ((And.left XA.out.2.2.1.parts).keeps HZ.out).at_ hjl
                    obtain ⟨bo, oo, eo, hbo, hco⟩ := ((And.left XA.out.2.2.2.2.parts).keeps HZ.out).at_ hjl2
                    obtain ⟨xa, hxa⟩ : ∃ x, L[j] = x := ⟨_, rfl⟩
                    obtain ⟨xo, hxo⟩ : ∃ x, L2[j] = x := ⟨_, rfl⟩
                    rw [hxa] at hca
                    rw [hxo] at hco
                    have HXA := Lib.hid (And.intro hxa hxo)
                    have MCA := fun (W' : World) (hW : Keeps _ W' []) => (hW.cell (p := ⟨ba, oa + j, none⟩) hba (by simp)).trans hca
                    have MCO := fun (W' : World) (hW : Keeps _ W' []) => (hW.cell (p := ⟨bo, oo + j, none⟩) hbo (by simp)).trans hco
                    clear hxa hxo hba hca hbo hco
                    subst ea eo
                    go_wp2_with fail
                    refine wp_region_keeps _ (by kernel_rfl) rfl (by kernel_rfl) ?_
                    apply loose_is
                    · intro W vals hW hkn
                      clear hkn
                      refine ⟨?_⟩
                      simp only [fill]
                      go_simp
                      first | exact ⟨Keeps.refl _ _, rfl⟩ | exact ⟨Keeps.alloc _ _, rfl⟩
                    simp only [addEnt]
                    apply loose_is
                    · intro W vals hW hkn
                      clear hkn
                      refine ⟨?_⟩
                      simp only [fill]
                      go_simp
                      first | exact ⟨Keeps.refl _ _, rfl⟩ | exact ⟨Keeps.alloc _ _, rfl⟩
                    simp only [addEnt]
                    apply loose_is
                    · intro W vals hW hkn
                      clear hkn
                      refine ⟨?_⟩
                      simp only [fill]
                      go_simp
                      first | exact ⟨Keeps.refl _ _, rfl⟩ | exact ⟨Keeps.alloc _ _, rfl⟩
                    simp only [addEnt]
                    apply loose_is
                    · intro W vals hW hkn
                      clear hkn
                      refine ⟨?_⟩
                      simp only [fill]
                      go_simp
                      first | exact ⟨Keeps.refl _ _, rfl⟩ | exact ⟨Keeps.alloc _ _, rfl⟩
                    simp only [addEnt]
                    apply loose_is
                    · intro W vals hW hkn
                      clear hkn
                      refine ⟨?_⟩
                      simp only [fill]
                      go_simp
                      first | exact ⟨Keeps.refl _ _, rfl⟩ | exact ⟨Keeps.alloc _ _, rfl⟩
                    simp only [addEnt]
                    apply loose_is
                    · intro W vals hW hkn
                      clear hkn
                      refine ⟨?_⟩
                      simp only [fill]
                      go_simp
                      first | exact ⟨Keeps.refl _ _, rfl⟩ | exact ⟨Keeps.alloc _ _, rfl⟩
                    simp only [addEnt]
                    apply loose_is
                    · intro W vals hW hkn
                      clear hkn
                      refine ⟨?_⟩
                      simp only [fill]
                      go_simp
                      first | exact ⟨Keeps.refl _ _, rfl⟩ | exact ⟨Keeps.alloc _ _, rfl⟩
                    simp only [addEnt]
                    apply loose_is
                    · intro W vals hW hkn
                      clear hkn
                      refine ⟨?_⟩
                      simp only [fill]
                      go_simp
                      first | exact ⟨Keeps.refl _ _, rfl⟩ | exact ⟨Keeps.alloc _ _, rfl⟩
                    simp only [addEnt]
                    apply loose_is
                    · intro W vals hW hkn
                      clear hkn
                      refine ⟨?_⟩
                      simp only [fill]
                      go_simp
                      first | exact ⟨Keeps.refl _ _, rfl⟩ | exact ⟨Keeps.alloc _ _, rfl⟩
                    simp only [addEnt]
                    apply loose_is
                    · intro W vals hW hkn
                      clear hkn
                      refine ⟨?_⟩
                      simp only [fill]
                      go_simp
                      first | exact ⟨Keeps.refl _ _, rfl⟩ | exact ⟨Keeps.alloc _ _, rfl⟩
                    simp only [addEnt]
                    apply loose_is
                    · intro W vals hW hkn
                      clear hkn
                      refine ⟨?_⟩
                      simp only [fill]
                      go_simp
                      first | exact ⟨Keeps.refl _ _, rfl⟩ | exact ⟨Keeps.alloc _ _, rfl⟩
                    simp only [addEnt]
                    apply loose_is
                    · intro W vals hW hkn
                      clear hkn
                      refine ⟨?_⟩
                      simp only [fill]
                      go_simp
                      first | exact ⟨Keeps.refl _ _, rfl⟩ | exact ⟨Keeps.alloc _ _, rfl⟩
                    simp only [addEnt]
                    refine loose_nil (fun W vals hW hkn => ?_)
                    simp only [knowsAll] at hkn
                    try simp only [and_true] at hkn
                    simp only [fill, Act.put, List.setIfInBounds_toArray, List.set_cons_succ, List.set_cons_zero]
                    clear hkn MCA MCO MG0 MG1 MG2 MO0 MO1 MO2
                    have HW := Lib.hid hW
                    clear hW
                    go_wp2_with fail
                    exact ⟨⟨j + 1, _, rfl, by go_num, by omega, Lib.hid (by have := alike_step hjl hjl2 HALx.out; rw [HXA.out.1, HXA.out.2] at this; exact this), Lib.hid (HZ.out.then_ HW.out)⟩, by simp [intOf]; omega⟩
                  | false =>
                    have HB3 := Lib.hid (alike_done HAL.out (fun h => h.1) (.inr rfl))
                    clear HAL MG0 MG1 MG2 MO0 MO1 MO2
                    go_wp2_with fail
                    have HZ1 := Lib.hid HZ.out
                    have HB4 := Lib.hid HB3.out
                    clear HZ HB3
                    go_loopw [15, 17] (fun a i wz => ∃ (j : Nat) (al : Bool), a = .bool al ∧ i = .int .i64 j ∧ j ≤ M.length ∧ Hid (al = true ↔ (((L.length = L2.length ∧ M.length = M2.length) ∧ L = L2) ∧ M.take j = M2.take j)) ∧ Hid (Keeps wA wz [])) (fun _ i _ => M.length - (intOf i).toNat)
                    case atStart => exact ⟨0, _, rfl, rfl, Nat.zero_le _, Lib.hid (by have := HB4.out; simpa using this), HZ1⟩
                    case round =>
                      clear HB4 HZ1
                      have hLb := HOK.out.2.1
                      obtain ⟨j, al, rfl, rfl, hj, HAL, HZ⟩ := hrel
                      have qg := XA.out.2.1.keeps HZ.out
                      have qo := XA.out.2.2.2.1.keeps HZ.out
                      have b0 := qg.cell 0
                      have b1 := qg.cell 1
                      have b2 := qg.cell 2
                      simp only [List.getElem?_toArray, List.getElem?_cons_zero, List.getElem?_cons_succ] at b0 b1 b2
                      have p0 := qo.cell 0
                      have p1 := qo.cell 1
                      have p2 := qo.cell 2
                      simp only [List.getElem?_toArray, List.getElem?_cons_zero, List.getElem?_cons_succ] at p0 p1 p2
                      have MG0 := fun (W' : World) (hW : Keeps _ W' []) => (qg.keeps hW).cell 0
                      have MG1 := fun (W' : World) (hW : Keeps _ W' []) => (qg.keeps hW).cell 1
                      have MG2 := fun (W' : World) (hW : Keeps _ W' []) => (qg.keeps hW).cell 2
                      simp only [List.getElem?_toArray, List.getElem?_cons_zero, List.getElem?_cons_succ] at MG0 MG1 MG2
                      have MO0 := fun (W' : World) (hW : Keeps _ W' []) => (qo.keeps hW).cell 0
                      have MO1 := fun (W' : World) (hW : Keeps _ W' []) => (qo.keeps hW).cell 1
                      have MO2 := fun (W' : World) (hW : Keeps _ W' []) => (qo.keeps hW).cell 2
                      simp only [List.getElem?_toArray, List.getElem?_cons_zero, List.getElem?_cons_succ] at MO0 MO1 MO2
                      clear qg qo
                      by_cases hjl : j < M.length
                      · cases al with
                        | true =>
                          have HALx := Lib.hid (HAL.out.1 rfl)
                          have hjl2 : j < M2.length := by have := HALx.out.1; omega
                          clear HAL
                          obtain ⟨ba, oa, ea, hba, hca⟩ := ((And.right XA.out.2.2.1.parts).keeps HZ.out).at_ hjl
                          obtain ⟨bo, oo, eo, hbo, hco⟩ := ((And.right XA.out.2.2.2.2.parts).keeps HZ.out).at_ hjl2
                          obtain ⟨xa, hxa⟩ : ∃ x, M[j] = x := ⟨_, rfl⟩
                          obtain ⟨xo, hxo⟩ : ∃ x, M2[j] = x := ⟨_, rfl⟩
                          rw [hxa] at hca
                          rw [hxo] at hco
                          have HXA := Lib.hid (And.intro hxa hxo)
                          have MCA := fun (W' : World) (hW : Keeps _ W' []) => (hW.cell (p := ⟨ba, oa + j, none⟩) hba (by simp)).trans hca
                          have MCO := fun (W' : World) (hW : Keeps _ W' []) => (hW.cell (p := ⟨bo, oo + j, none⟩) hbo (by simp)).trans hco
                          clear hxa hxo hba hca hbo hco
                          subst ea eo
                          go_wp2_with fail
                          refine wp_region_keeps _ (by kernel_rfl) rfl (by kernel_rfl) ?_
                          apply loose_is
                          · intro W vals hW hkn
                            clear hkn
                            refine ⟨?_⟩
                            simp only [fill]
                            go_simp
                            first | exact ⟨Keeps.refl _ _, rfl⟩ | exact ⟨Keeps.alloc _ _, rfl⟩
                          simp only [addEnt]
                          apply loose_is
                          · intro W vals hW hkn
                            clear hkn
                            refine ⟨?_⟩
                            simp only [fill]
                            go_simp
                            first | exact ⟨Keeps.refl _ _, rfl⟩ | exact ⟨Keeps.alloc _ _, rfl⟩
                          simp only [addEnt]
                          apply loose_is
                          · intro W vals hW hkn
                            clear hkn
                            refine ⟨?_⟩
                            simp only [fill]
                            go_simp
                            first | exact ⟨Keeps.refl _ _, rfl⟩ | exact ⟨Keeps.alloc _ _, rfl⟩
                          simp only [addEnt]
                          apply loose_is
                          · intro W vals hW hkn
                            clear hkn
                            refine ⟨?_⟩
                            simp only [fill]
                            go_simp
                            first | exact ⟨Keeps.refl _ _, rfl⟩ | exact ⟨Keeps.alloc _ _, rfl⟩
                          simp only [addEnt]
                          apply loose_is
                          · intro W vals hW hkn
                            clear hkn
                            refine ⟨?_⟩
                            simp only [fill]
                            go_simp
                            first | exact ⟨Keeps.refl _ _, rfl⟩ | exact ⟨Keeps.alloc _ _, rfl⟩
                          simp only [addEnt]
                          apply loose_is
                          · intro W vals hW hkn
                            clear hkn
                            refine ⟨?_⟩
                            simp only [fill]
                            go_simp
                            first | exact ⟨Keeps.refl _ _, rfl⟩ | exact ⟨Keeps.alloc _ _, rfl⟩
                          simp only [addEnt]
                          apply loose_is
                          · intro W vals hW hkn
                            clear hkn
                            refine ⟨?_⟩
                            simp only [fill]
                            go_simp
                            first | exact ⟨Keeps.refl _ _, rfl⟩ | exact ⟨Keeps.alloc _ _, rfl⟩
                          simp only [addEnt]
                          apply loose_is
                          · intro W vals hW hkn
                            clear hkn
                            refine ⟨?_⟩
                            simp only [fill]
                            go_simp
                            first | exact ⟨Keeps.refl _ _, rfl⟩ | exact ⟨Keeps.alloc _ _, rfl⟩
                          simp only [addEnt]
                          apply loose_is
                          · intro W vals hW hkn
                            clear hkn
                            refine ⟨?_⟩
                            simp only [fill]
                            go_simp
                            first | exact ⟨Keeps.refl _ _, rfl⟩ | exact ⟨Keeps.alloc _ _, rfl⟩
                          simp only [addEnt]
                          apply loose_is
                          · intro W vals hW hkn
                            clear hkn
                            refine ⟨?_⟩
                            simp only [fill]
                            go_simp
                            first | exact ⟨Keeps.refl _ _, rfl⟩ | exact ⟨Keeps.alloc _ _, rfl⟩
                          simp only [addEnt]
                          apply loose_is
                          · intro W vals hW hkn
                            clear hkn
                            refine ⟨?_⟩
                            simp only [fill]
                            go_simp
                            first | exact ⟨Keeps.refl _ _, rfl⟩ | exact ⟨Keeps.alloc _ _, rfl⟩
                          simp only [addEnt]
                          apply loose_is
                          · intro W vals hW hkn
                            clear hkn
                            refine ⟨?_⟩
                            simp only [fill]
                            go_simp
                            first | exact ⟨Keeps.refl _ _, rfl⟩ | exact ⟨Keeps.alloc _ _, rfl⟩
                          simp only [addEnt]
                          refine loose_nil (fun W vals hW hkn => ?_)
                          simp only [knowsAll] at hkn
                          try simp only [and_true] at hkn
                          simp only [fill, Act.put, List.setIfInBounds_toArray, List.set_cons_succ, List.set_cons_zero]
                          clear hkn MCA MCO MG0 MG1 MG2 MO0 MO1 MO2
                          have HW := Lib.hid hW
                          clear hW
                          go_wp2_with fail
                          exact ⟨⟨j + 1, _, rfl, by go_num, by omega, Lib.hid (by have := alike_step hjl hjl2 HALx.out; rw [HXA.out.1, HXA.out.2] at this; exact this), Lib.hid (HZ.out.then_ HW.out)⟩, by simp [intOf]; omega⟩
                        | false =>
                          have HB3 := Lib.hid (alike_done HAL.out (fun h => h.1.2) (.inr rfl))
                          clear HAL MG0 MG1 MG2 MO0 MO1 MO2
                          go_wp2_with fail
                          have HE := Lib.hid (alike_end HB3.out)
                          refine (spSame_sp (XA.out.1.swap.one.keeps HZ.out) (XA.out.1.one.keeps HZ.out)).mono ?_
                          rw [HE.out]
                          rintro e wB ⟨rfl, hkB⟩
                          have HZB := Lib.hid (HZ.out.then_ hkB)
                          have HTB := Lib.hid (XA.out.1.swap.keeps HZB.out)
                          clear hkB HE HB3
                          go_wp2_with fail
                          refine (spUndo_two HTB.out).mono ?_
                          rintro e wC ⟨rfl, hC, hap⟩
                          obtain ⟨ss, hss⟩ := (SpSense.two W0 s 60 t 60 L2 M2).row HTB.out
                          have qg := (RowsBut.of_apart hap).row HBD.out.2.2.1 (XA.out.2.1.keeps HZB.out)
                          have HGC := Lib.hid ((XA.out.2.2.1.keeps HZB.out).rows (RowsBut.of_apart hap) hss)
                          have HTC := Lib.hid hC
                          have b0 := qg.cell 0
                          have b1 := qg.cell 1
                          have b2 := qg.cell 2
                          simp only [List.getElem?_toArray, List.getElem?_cons_zero, List.getElem?_cons_succ] at b0 b1 b2
                          clear qg hC hap hss
                          go_wp2_with fail
                          refine (refUndo_any wC _ 60 L M HGC.out).mono ?_
                          rintro e wD ⟨g', rfl, hg', hkD⟩
                          have HGD := Lib.hid hg'
                          have HTD := Lib.hid (HTC.out.keeps hkD)
                          clear hg' hkD
                          go_wp2_with fail
                          refine (same_any HTD.out.one g' 60 M HGD.out).mono ?_
                          rintro e wE ⟨rfl, hkE⟩
                          have HTE := Lib.hid (H0.out.2.then_ (HTD.out.h.then_ hkE))
                          clear hkE
                          go_wp2_with fail
                          refine (known7_at HTE.out).mono ?_
                          rintro e w' ⟨rfl, hk⟩
                          have HK := Lib.hid hk
                          clear hk
                          go_wp2_with fail
                          go_ret
                          exact ⟨rfl, HK.out⟩
                      · have HB3 := Lib.hid (alike_done HAL.out (fun h => h.1.2) (.inl (show j = M.length by omega)))
                        clear HAL MG0 MG1 MG2 MO0 MO1 MO2
                        go_wp2_with fail
                        have HE := Lib.hid (alike_end HB3.out)
                        refine (spSame_sp (XA.out.1.swap.one.keeps HZ.out) (XA.out.1.one.keeps HZ.out)).mono ?_
                        rw [HE.out]
                        rintro e wB ⟨rfl, hkB⟩
                        have HZB := Lib.hid (HZ.out.then_ hkB)
                        have HTB := Lib.hid (XA.out.1.swap.keeps HZB.out)
                        clear hkB HE HB3
                        go_wp2_with fail
                        refine (spUndo_two HTB.out).mono ?_
                        rintro e wC ⟨rfl, hC, hap⟩
                        obtain ⟨ss, hss⟩ := (SpSense.two W0 s 60 t 60 L2 M2).row HTB.out
                        have qg := (RowsBut.of_apart hap).row HBD.out.2.2.1 (XA.out.2.1.keeps HZB.out)
                        have HGC := Lib.hid ((XA.out.2.2.1.keeps HZB.out).rows (RowsBut.of_apart hap) hss)
                        have HTC := Lib.hid hC
                        have b0 := qg.cell 0
                        have b1 := qg.cell 1
                        have b2 := qg.cell 2
                        simp only [List.getElem?_toArray, List.getElem?_cons_zero, List.getElem?_cons_succ] at b0 b1 b2
                        clear qg hC hap hss
                        go_wp2_with fail
                        refine (refUndo_any wC _ 60 L M HGC.out).mono ?_
                        rintro e wD ⟨g', rfl, hg', hkD⟩
                        have HGD := Lib.hid hg'
                        have HTD := Lib.hid (HTC.out.keeps hkD)
                        clear hg' hkD
                        go_wp2_with fail
                        refine (same_any HTD.out.one g' 60 M HGD.out).mono ?_
                        rintro e wE ⟨rfl, hkE⟩
                        have HTE := Lib.hid (H0.out.2.then_ (HTD.out.h.then_ hkE))
                        clear hkE
                        go_wp2_with fail
                        refine (known7_at HTE.out).mono ?_
                        rintro e w' ⟨rfl, hk⟩
                        have HK := Lib.hid hk
                        clear hk
                        go_wp2_with fail
                        go_ret
                        exact ⟨rfl, HK.out⟩
                · have HB3 := Lib.hid (alike_done HAL.out (fun h => h.1) (.inl (show j = L.length by omega)))
                  clear HAL MG0 MG1 MG2 MO0 MO1 MO2
                  go_wp2_with fail
                  have HZ1 := Lib.hid HZ.out
                  have HB4 := Lib.hid HB3.out
                  clear HZ HB3
                  go_loopw [15, 17] (fun a i wz => ∃ (j : Nat) (al : Bool), a = .bool al ∧ i = .int .i64 j ∧ j ≤ M.length ∧ Hid (al = true ↔ (((L.length = L2.length ∧ M.length = M2.length) ∧ L = L2) ∧ M.take j = M2.take j)) ∧ Hid (Keeps wA wz [])) (fun _ i _ => M.length - (intOf i).toNat)
                  case atStart => exact ⟨0, _, rfl, rfl, Nat.zero_le _, Lib.hid (by have := HB4.out; simpa using this), HZ1⟩
                  case round =>
                    clear HB4 HZ1
                    have hLb := HOK.out.2.1
                    obtain ⟨j, al, rfl, rfl, hj, HAL, HZ⟩ := hrel
                    have qg := XA.out.2.1.keeps HZ.out
                    have qo := XA.out.2.2.2.1.keeps HZ.out
                    have b0 := qg.cell 0
                    have b1 := qg.cell 1
                    have b2 := qg.cell 2
                    simp only [List.getElem?_toArray, List.getElem?_cons_zero, List.getElem?_cons_succ] at b0 b1 b2
                    have p0 := qo.cell 0
                    have p1 := qo.cell 1
                    have p2 := qo.cell 2
                    simp only [List.getElem?_toArray, List.getElem?_cons_zero, List.getElem?_cons_succ] at p0 p1 p2
                    have MG0 := fun (W' : World) (hW : Keeps _ W' []) => (qg.keeps hW).cell 0
                    have MG1 := fun (W' : World) (hW : Keeps _ W' []) => (qg.keeps hW).cell 1
                    have MG2 := fun (W' : World) (hW : Keeps _ W' []) => (qg.keeps hW).cell 2
                    simp only [List.getElem?_toArray, List.getElem?_cons_zero, List.getElem?_cons_succ] at MG0 MG1 MG2
                    have MO0 := fun (W' : World) (hW : Keeps _ W' []) => (qo.keeps hW).cell 0
                    have MO1 := fun (W' : World) (hW : Keeps _ W' []) => (qo.keeps hW).cell 1
                    have MO2 := fun (W' : World) (hW : Keeps _ W' []) => (qo.keeps hW).cell 2
                    simp only [List.getElem?_toArray, List.getElem?_cons_zero, List.getElem?_cons_succ] at MO0 MO1 MO2
                    clear qg qo
                    by_cases hjl : j < M.length
                    · cases al with
                      | true =>
                        have HALx := Lib.hid (HAL.out.1 rfl)
                        have hjl2 : j < M2.length := by have := HALx.out.1; omega
                        clear HAL
                        obtain ⟨ba, oa, ea, hba, hca⟩ := ((And.right XA.out.2.2.1.parts).keeps HZ.out).at_ hjl
                        obtain ⟨bo, oo, eo, hbo, hco⟩ := ((And.right XA.out.2.2.2.2.parts).keeps HZ.out).at_ hjl2
                        obtain ⟨xa, hxa⟩ : ∃ x, M[j] = x := ⟨_, rfl⟩
                        obtain ⟨xo, hxo⟩ : ∃ x, M2[j] = x := ⟨_, rfl⟩
                        rw [hxa] at hca
                        rw [hxo] at hco
                        have HXA := Lib.hid (And.intro hxa hxo)
                        have MCA := fun (W' : World) (hW : Keeps _ W' []) => (hW.cell (p := ⟨ba, oa + j, none⟩) hba (by simp)).trans hca
                        have MCO := fun (W' : World) (hW : Keeps _ W' []) => (hW.cell (p := ⟨bo, oo + j, none⟩) hbo (by simp)).trans hco
                        clear hxa hxo hba hca hbo hco
                        subst ea eo
                        go_wp2_with fail
                        refine wp_region_keeps _ (by kernel_rfl) rfl (by kernel_rfl) ?_
                        apply loose_is
                        · intro W vals hW hkn
                          clear hkn
                          refine ⟨?_⟩
                          simp only [fill]
                          go_simp
                          first | exact ⟨Keeps.refl _ _, rfl⟩ | exact ⟨Keeps.alloc _ _, rfl⟩
                        simp only [addEnt]
                        apply loose_is
                        · intro W vals hW hkn
                          clear hkn
                          refine ⟨?_⟩
                          simp only [fill]
                          go_simp
                          first | exact ⟨Keeps.refl _ _, rfl⟩ | exact ⟨Keeps.alloc _ _, rfl⟩
                        simp only [addEnt]
                        apply loose_is
                        · intro W vals hW hkn
                          clear hkn
                          refine ⟨?_⟩
                          simp only [fill]
                          go_simp
                          first | exact ⟨Keeps.refl _ _, rfl⟩ | exact ⟨Keeps.alloc _ _, rfl⟩
                        simp only [addEnt]
                        apply loose_is
                        · intro W vals hW hkn
                          clear hkn
                          refine ⟨?_⟩
                          simp only [fill]
                          go_simp
                          first | exact ⟨Keeps.refl _ _, rfl⟩ | exact ⟨Keeps.alloc _ _, rfl⟩
                        simp only [addEnt]
                        apply loose_is
                        · intro W vals hW hkn
                          clear hkn
                          refine ⟨?_⟩
                          simp only [fill]
                          go_simp
                          first | exact ⟨Keeps.refl _ _, rfl⟩ | exact ⟨Keeps.alloc _ _, rfl⟩
                        simp only [addEnt]
                        apply loose_is
                        · intro W vals hW hkn
                          clear hkn
                          refine ⟨?_⟩
                          simp only [fill]
                          go_simp
                          first | exact ⟨Keeps.refl _ _, rfl⟩ | exact ⟨Keeps.alloc _ _, rfl⟩
                        simp only [addEnt]
                        apply loose_is
                        · intro W vals hW hkn
                          clear hkn
                          refine ⟨?_⟩
                          simp only [fill]
                          go_simp
                          first | exact ⟨Keeps.refl _ _, rfl⟩ | exact ⟨Keeps.alloc _ _, rfl⟩
                        simp only [addEnt]
                        apply loose_is
                        · intro W vals hW hkn
                          clear hkn
                          refine ⟨?_⟩
                          simp only [fill]
                          go_simp
                          first | exact ⟨Keeps.refl _ _, rfl⟩ | exact ⟨Keeps.alloc _ _, rfl⟩
                        simp only [addEnt]
                        apply loose_is
                        · intro W vals hW hkn
                          clear hkn
                          refine ⟨?_⟩
                          simp only [fill]
                          go_simp
                          first | exact ⟨Keeps.refl _ _, rfl⟩ | exact ⟨Keeps.alloc _ _, rfl⟩
                        simp only [addEnt]
                        apply loose_is
                        · intro W vals hW hkn
                          clear hkn
                          refine ⟨?_⟩
                          simp only [fill]
                          go_simp
                          first | exact ⟨Keeps.refl _ _, rfl⟩ | exact ⟨Keeps.alloc _ _, rfl⟩
                        simp only [addEnt]
                        apply loose_is
                        · intro W vals hW hkn
                          clear hkn
                          refine ⟨?_⟩
                          simp only [fill]
                          go_simp
                          first | exact ⟨Keeps.refl _ _, rfl⟩ | exact ⟨Keeps.alloc _ _, rfl⟩
                        simp only [addEnt]
                        apply loose_is
                        · intro W vals hW hkn
                          clear hkn
                          refine ⟨?_⟩
                          simp only [fill]
                          go_simp
                          first | exact ⟨Keeps.refl _ _, rfl⟩ | exact ⟨Keeps.alloc _ _, rfl⟩
                        simp only [addEnt]
                        refine loose_nil (fun W vals hW hkn => ?_)
                        simp only [knowsAll] at hkn
                        try simp only [and_true] at hkn
                        simp only [fill, Act.put, List.setIfInBounds_toArray, List.set_cons_succ, List.set_cons_zero]
                        clear hkn MCA MCO MG0 MG1 MG2 MO0 MO1 MO2
                        have HW := Lib.hid hW
                        clear hW
                        go_wp2_with fail
                        exact ⟨⟨j + 1, _, rfl, by go_num, by omega, Lib.hid (by have := alike_step hjl hjl2 HALx.out; rw [HXA.out.1, HXA.out.2] at this; exact this), Lib.hid (HZ.out.then_ HW.out)⟩, by simp [intOf]; omega⟩
                      | false =>
                        have HB3 := Lib.hid (alike_done HAL.out (fun h => h.1.2) (.inr rfl))
                        clear HAL MG0 MG1 MG2 MO0 MO1 MO2
                        go_wp2_with fail
                        have HE := Lib.hid (alike_end HB3.out)
                        refine (spSame_sp (XA.out.1.swap.one.keeps HZ.out) (XA.out.1.one.keeps HZ.out)).mono ?_
                        rw [HE.out]
                        rintro e wB ⟨rfl, hkB⟩
                        have HZB := Lib.hid (HZ.out.then_ hkB)
                        have HTB := Lib.hid (XA.out.1.swap.keeps HZB.out)
                        clear hkB HE HB3
                        go_wp2_with fail
                        refine (spUndo_two HTB.out).mono ?_
                        rintro e wC ⟨rfl, hC, hap⟩
                        obtain ⟨ss, hss⟩ := (SpSense.two W0 s 60 t 60 L2 M2).row HTB.out
                        have qg := (RowsBut.of_apart hap).row HBD.out.2.2.1 (XA.out.2.1.keeps HZB.out)
                        have HGC := Lib.hid ((XA.out.2.2.1.keeps HZB.out).rows (RowsBut.of_apart hap) hss)
                        have HTC := Lib.hid hC
                        have b0 := qg.cell 0
                        have b1 := qg.cell 1
                        have b2 := qg.cell 2
                        simp only [List.getElem?_toArray, List.getElem?_cons_zero, List.getElem?_cons_succ] at b0 b1 b2
                        clear qg hC hap hss
                        go_wp2_with fail
                        refine (refUndo_any wC _ 60 L M HGC.out).mono ?_
                        rintro e wD ⟨g', rfl, hg', hkD⟩
                        have HGD := Lib.hid hg'
                        have HTD := Lib.hid (HTC.out.keeps hkD)
                        clear hg' hkD
                        go_wp2_with fail
                        refine (same_any HTD.out.one g' 60 M HGD.out).mono ?_
                        rintro e wE ⟨rfl, hkE⟩
                        have HTE := Lib.hid (H0.out.2.then_ (HTD.out.h.then_ hkE))
                        clear hkE
                        go_wp2_with fail
                        refine (known7_at HTE.out).mono ?_
                        rintro e w' ⟨rfl, hk⟩
                        have HK := Lib.hid hk
                        clear hk
                        go_wp2_with fail
                        go_ret
                        exact ⟨rfl, HK.out⟩
                    · have HB3 := Lib.hid (alike_done HAL.out (fun h => h.1.2) (.inl (show j = M.length by omega)))
                      clear HAL MG0 MG1 MG2 MO0 MO1 MO2
                      go_wp2_with fail
                      have HE := Lib.hid (alike_end HB3.out)
                      refine (spSame_sp (XA.out.1.swap.one.keeps HZ.out) (XA.out.1.one.keeps HZ.out)).mono ?_
                      rw [HE.out]
                      rintro e wB ⟨rfl, hkB⟩
                      have HZB := Lib.hid (HZ.out.then_ hkB)
                      have HTB := Lib.hid (XA.out.1.swap.keeps HZB.out)
                      clear hkB HE HB3
                      go_wp2_with fail
                      refine (spUndo_two HTB.out).mono ?_
                      rintro e wC ⟨rfl, hC, hap⟩
                      obtain ⟨ss, hss⟩ := (SpSense.two W0 s 60 t 60 L2 M2).row HTB.out
                      have qg := (RowsBut.of_apart hap).row HBD.out.2.2.1 (XA.out.2.1.keeps HZB.out)
                      have HGC := Lib.hid ((XA.out.2.2.1.keeps HZB.out).rows (RowsBut.of_apart hap) hss)
                      have HTC := Lib.hid hC
                      have b0 := qg.cell 0
                      have b1 := qg.cell 1
                      have b2 := qg.cell 2
                      simp only [List.getElem?_toArray, List.getElem?_cons_zero, List.getElem?_cons_succ] at b0 b1 b2
                      clear qg hC hap hss
                      go_wp2_with fail
                      refine (refUndo_any wC _ 60 L M HGC.out).mono ?_
                      rintro e wD ⟨g', rfl, hg', hkD⟩
                      have HGD := Lib.hid hg'
                      have HTD := Lib.hid (HTC.out.keeps hkD)
                      clear hg' hkD
                      go_wp2_with fail
                      refine (same_any HTD.out.one g' 60 M HGD.out).mono ?_
                      rintro e wE ⟨rfl, hkE⟩
                      have HTE := Lib.hid (H0.out.2.then_ (HTD.out.h.then_ hkE))
                      clear hkE
                      go_wp2_with fail
                      refine (known7_at HTE.out).mono ?_
                      rintro e w' ⟨rfl, hk⟩
                      have HK := Lib.hid hk
                      clear hk
                      go_wp2_with fail
                      go_ret
                      exact ⟨rfl, HK.out⟩
            · have HB3 := Lib.hid (show (false = true) ↔ (((L.length = L2.length ∧ M.length = M2.length) ∧ L = L2) ∧ M = M2) by
                simp only [Bool.false_eq_true, false_iff]
                rintro ⟨⟨⟨h, _⟩, _⟩, _⟩
                exact e1 (by rw [h]))
              have HZ := Lib.hid (Keeps.refl wA [])
              have HLZ := Lib.hid (show (0 : Nat) < L.length ∧ (0 : Nat) < M.length from by
                have h := XA.out.1.swap.one.ok
                have h1 := h.1.l2
                have h2 := h.2.1.l2
                omega)
              go_wp2_with fail
              go_loopw [15, 16] (fun a i wz => a = .bool false ∧ i = .int .i64 0 ∧ wA = wz) (fun _ _ _ => 0)
              case atStart => exact ⟨rfl, rfl, rfl⟩
              case round =>
                obtain ⟨rfl, rfl, rfl⟩ := hrel
                have h0 := HLZ.out.1
                go_wp2_with fail
                clear h0
                go_loopw [15, 17] (fun a i wz => a = .bool false ∧ i = .int .i64 0 ∧ wA = wz) (fun _ _ _ => 0)
                case atStart => exact ⟨rfl, rfl, rfl⟩
                case round =>
                  obtain ⟨rfl, rfl, rfl⟩ := hrel
                  have h0 := HLZ.out.2
                  go_wp2_with fail
                  clear h0
                  have HE := Lib.hid (alike_end HB3.out)
                  refine (spSame_sp (XA.out.1.swap.one.keeps HZ.out) (XA.out.1.one.keeps HZ.out)).mono ?_
                  rw [HE.out]
                  rintro e wB ⟨rfl, hkB⟩
                  have HZB := Lib.hid (HZ.out.then_ hkB)
                  have HTB := Lib.hid (XA.out.1.swap.keeps HZB.out)
                  clear hkB HE HB3
                  go_wp2_with fail
                  refine (spUndo_two HTB.out).mono ?_
                  rintro e wC ⟨rfl, hC, hap⟩
                  obtain ⟨ss, hss⟩ := (SpSense.two W0 s 60 t 60 L2 M2).row HTB.out
                  have qg := (RowsBut.of_apart hap).row HBD.out.2.2.1 (XA.out.2.1.keeps HZB.out)
                  have HGC := Lib.hid ((XA.out.2.2.1.keeps HZB.out).rows (RowsBut.of_apart hap) hss)
                  have HTC := Lib.hid hC
                  have b0 := qg.cell 0
                  have b1 := qg.cell 1
                  have b2 := qg.cell 2
                  simp only [List.getElem?_toArray, List.getElem?_cons_zero, List.getElem?_cons_succ] at b0 b1 b2
                  clear qg hC hap hss
                  go_wp2_with fail
                  refine (refUndo_any wC _ 60 L M HGC.out).mono ?_
                  rintro e wD ⟨g', rfl, hg', hkD⟩
                  have HGD := Lib.hid hg'
                  have HTD := Lib.hid (HTC.out.keeps hkD)
                  clear hg' hkD
                  go_wp2_with fail
                  refine (same_any HTD.out.one g' 60 M HGD.out).mono ?_
                  rintro e wE ⟨rfl, hkE⟩
                  have HTE := Lib.hid (H0.out.2.then_ (HTD.out.h.then_ hkE))
                  clear hkE
                  go_wp2_with fail
                  refine (known7_at HTE.out).mono ?_
                  rintro e w' ⟨rfl, hk⟩
                  have HK := Lib.hid hk
                  clear hk
                  go_wp2_with fail
                  go_ret
                  exact ⟨rfl, HK.out⟩
set_option maxRecDepth 100000 in
theorem spaceCopies_any (w : World) (high : Int) (A A0 A1 : Option Addr) (c c0 c1 : Nat) (free : List Int) (l0 l1 : List (Int × Int)) (hf : CameI w A c free) (ha0 : CameA w A0 c0 l0) (ha1 : CameA w A1 c1 l1) :
    Calls Try.prog 6 #[.int .i64 high, .slice A free.length c, .agg #[.slice A0 l0.length c0, .slice A1 l1.length c1]] w fun e w' => e = .returned (.bool true) ∧ Keeps w w' [] := by
  obtain ⟨z, hz⟩ : ∃ z, IntKind.i64.wrap ((l0.length : Int) + l1.length) = z := ⟨_, rfl⟩
  by_cases h : (60 : Int) < z ∨ (60 : Int) < free.length ∨ 50 < high
  · exact spaceCopies_far w high A A0 A1 c _ c0 _ c1 _ z hz h
  · exact spaceCopies_near w high A A0 A1 c c0 c1 free l0 l1 hf ha0 ha1 z hz (by omega) (by omega) (by omega)
end Go.Proofs.Ytanbdkfkkochgaa
