/- The statement SpaceParts (layer 7): its walk. -/
import Derived.Test.YtanbdkfkkochgaaPa29
import Derived.Test.YtanbdkfkkochgaaPa19

namespace Go.Proofs.Ytanbdkfkkochgaa
open Go.RowKit Go.Maps Go.Shelf

theorem known7_to {w w' : World} (h : Keeps w w' []) : Calls Try.prog 9 #[] w' fun e w'' => e = .returned (.bool true) ∧ Keeps w w'' [] :=
  (known7_any w').mono fun _ _ ⟨a, b⟩ => ⟨a, h.then_ b⟩
theorem undKept : Try.prog.underlying 47 = some (.map 2 4) := by kernel_rfl
theorem zeroKept (w : World) : (zeroValue 4).run Try.prog w = .ok (.bool false) w := by kernel_rfl
/-- A space and the map of what was kept. -/
structure SpMap (W0 w : World) (s most : Nat) (L M : List Nat) (km : Nat) (f : Int → Option Value) : Prop where
  at_ : ∃ m1 m2, SpAt w s m1 m2 most L M ∧ W0.heap.size ≤ m1 ∧ W0.heap.size ≤ m2 ∧ km ≠ m1 ∧ km ≠ m2
  m : PMap w km f
  f : W0.heap.size ≤ s ∧ W0.heap.size ≤ km
  h : Keeps W0 w []
section
variable {W0 w w' : World} {s most km : Nat} {L M L1 M1 : List Nat} {f g : Int → Option Value}
theorem SpMap.one (h : SpMap W0 w s most L M km f) : SpIn W0 w s most L M := by
  obtain ⟨⟨m1, m2, h1, a, b, c, d⟩, hm, hf, hk⟩ := h
  exact ⟨⟨m1, m2, h1, a, b⟩, hf.1, hk⟩
theorem SpMap.keeps (h : SpMap W0 w s most L M km f) (hk : Keeps w w' []) : SpMap W0 w' s most L M km f := by
  obtain ⟨⟨m1, m2, h1, hb⟩, hm, hf, hk0⟩ := h
  exact ⟨⟨m1, m2, h1.keeps hk, hb⟩, hm.keep hk (by simp), hf, hk0.trans hk (by simp)⟩
theorem SpMap.post {m1 m2 n1 n2 : Nat} (h1 : SpAt w s m1 m2 most L M) (hb : W0.heap.size ≤ m1 ∧ W0.heap.size ≤ m2 ∧ km ≠ m1 ∧ km ≠ m2) (hm : PMap w km f) (hf : W0.heap.size ≤ s ∧ W0.heap.size ≤ km) (hk : Keeps W0 w []) (p : SpPost w w' s m1 m2 most L1 M1 n1 n2) :
    SpMap W0 w' s most L1 M1 km f ∧ Apart w w' s := by
  have hsz := hk.size
  have hlt := IMap.lt hm
  have e1 := IMap.ne_row hm h1.row
  have p1 := p.f1
  have p2 := p.f2
  refine ⟨⟨⟨n1, n2, p.at_, by omega, by omega, by omega, by omega⟩, hm.keep p.h (by simp; omega), hf, hk.trans p.h (fun y hy hlt => by simp at hy; omega)⟩, m1, fun t cs hr => IMap.ne_row h1.p1 hr rfl, p.h⟩
theorem SpSense.map (W0 : World) (s most km : Nat) (f : Int → Option Value) : SpSense W0.heap.size (fun w L M => SpMap W0 w s most L M km f) s most := by
  refine ⟨fun h => h.h.size, fun {w w' L M b cs} h hb hr hk => ?_, fun h k => h.keeps k, fun h => ?_, fun {w L M} h => ?_, fun {w L M} h x hx1 hx2 => ?_, fun {w L M} h => ?_, fun {w L M} h => ?_⟩
  · obtain ⟨⟨m1, m2, h1, hb0⟩, hm, hf, hk0⟩ := h
    have e1 := IMap.ne_row h1.p1 hr
    have e2 := IMap.ne_row h1.p2 hr
    have e3 := Row.ne_type h1.row hr (by decide)
    have e4 := IMap.ne_row hm hr
    exact ⟨⟨m1, m2, h1.keep hk (by simpa using e3) (by simpa using e1) (by simpa using e2), hb0⟩, hm.keep hk (by simpa using e4), hf, hk0.trans hk (fun y hy hlt => by simp at hy; omega)⟩
  · obtain ⟨⟨m1, m2, h1, hb0⟩, _⟩ := h
    exact ⟨_, h1.row⟩
  obtain ⟨⟨m1, m2, h1, hb⟩, hm, hf, hk⟩ := h
  refine (callsIn_wide.1 (spTake_in 3 (by omega) h1)).mono ?_
  rintro e w' ⟨he, hp⟩
  first
  | exact ⟨he, SpMap.post h1 hb hm hf hk hp⟩
  | (obtain ⟨n, hp⟩ := hp; exact ⟨he, SpMap.post h1 hb hm hf hk hp⟩)
  obtain ⟨⟨m1, m2, h1, hb⟩, hm, hf, hk⟩ := h
  refine (spGive_any h1 x hx1 hx2).mono ?_
  rintro e w' ⟨he, hp⟩
  first
  | exact ⟨he, SpMap.post h1 hb hm hf hk hp⟩
  | (obtain ⟨n, hp⟩ := hp; exact ⟨he, SpMap.post h1 hb hm hf hk hp⟩)
  obtain ⟨⟨m1, m2, h1, hb⟩, hm, hf, hk⟩ := h
  refine (spLasts_any h1).mono ?_
  rintro e w' ⟨he, hp⟩
  first
  | exact ⟨he, SpMap.post h1 hb hm hf hk hp⟩
  | (obtain ⟨n, hp⟩ := hp; exact ⟨he, SpMap.post h1 hb hm hf hk hp⟩)
  obtain ⟨⟨m1, m2, h1, hb⟩, hm, hf, hk⟩ := h
  refine (spUndo_any h1).mono ?_
  rintro e w' ⟨he, hp⟩
  first
  | exact ⟨he, SpMap.post h1 hb hm hf hk hp⟩
  | (obtain ⟨n, hp⟩ := hp; exact ⟨he, SpMap.post h1 hb hm hf hk hp⟩)
/-- A store into that map. -/
theorem SpMap.store (h : SpMap W0 w s most L M km f) (hs : ∀ x, f x ≠ none → x ∈ keptDom) {x : Int} (h1 : -9223372036854775808 ≤ x) (h2 : x ≤ 9223372036854775807) (v : Value) (hg : upd f x (some v) = g) :
    ∃ w', (Instr.mapUpdate 47 (.map (some km)) (.int .i64 x) v).run Try.prog w = .ok () w' ∧ SpMap W0 w' s most L M km g := by
  obtain ⟨⟨m1, m2, ha, hb0⟩, hm, hf, hk0⟩ := h
  obtain ⟨w', hrun, hp, hk, _⟩ := hm.store undI64 undKept hs keptDom_lt h1 h2 v
  have e1 := IMap.ne_row hm ha.row
  rw [hg] at hp
  exact ⟨w', hrun, ⟨m1, m2, ha.keep hk (by simp; omega) (by simp; omega) (by simp; omega), hb0⟩, hp, hf, hk0.trans hk (fun y hy hlt => by simp at hy; omega)⟩
theorem SpMap.look (h : SpMap W0 w s most L M km f) {x : Int} (h1 : -9223372036854775808 ≤ x) (h2 : x ≤ 9223372036854775807) :
    (Instr.lookup 47 (.map (some km)) (.int .i64 x) false).run Try.prog w = .ok ((f x).getD (.bool false)) w := h.m.look undI64 undKept (zeroKept w) h1 h2 false
end
structure PLens (L : List Nat) (a b c d : Nat) : Prop where
  p4 : (spSel (plIn [4]) L).length = a
  p2 : (spSel (plIn [2]) L).length = b
  p3 : (spSel (plIn [3]) L).length = c
  pw : (spSel (plIn [4, 3]) L).length = d
theorem PLens.sum {L : List Nat} {a b c d : Nat} (h : PLens L a b c d) (hL : SpOk L) : a + b + c = L.countP (fun v => decide (2 ≤ v)) ∧ d = a + c ∧ a + b + c + 2 ≤ L.length ∧ L.length ≤ 4096 := by
  obtain ⟨h1, h2, h3, h4⟩ := h
  rw [spSel_len] at h1 h2 h3 h4
  have h5 := count_sum L hL.all4
  have h6 := hL.count_le
  have h7 := hL.le
  omega
set_option maxRecDepth 100000 in
set_option maxHeartbeats 4000000 in
theorem spaceParts_far (w : World) (x0 x1 : Int) (A B : Option Addr) (c d n m : Nat) (h : (60 : Int) < m ∨ (60 : Int) < n ∨ 60 < x0) :
    Calls Try.prog 5 #[.agg #[.int .i64 x0, .int .i64 x1], .slice A n c, .slice B m d] w fun e w' => e = .returned (.bool true) ∧ Keeps w w' [] := by
  by_cases h1 : (60 : Int) < m
  · clear h
    go_enter Try.func5, Try.ntmps5
    go_wp2_with fail
    refine (known7_to (Keeps.alloc w _)).mono ?_
    rintro e w' ⟨rfl, hk⟩
    have HK := Lib.hid hk
    clear hk
    go_wp2_with fail
    go_ret
    exact ⟨rfl, HK.out⟩
  · by_cases h2 : (60 : Int) < n
    · clear h
      go_enter Try.func5, Try.ntmps5
      go_wp2_with fail
      refine (known7_to (Keeps.alloc w _)).mono ?_
      rintro e w' ⟨rfl, hk⟩
      have HK := Lib.hid hk
      clear hk
      go_wp2_with fail
      go_ret
      exact ⟨rfl, HK.out⟩
    · have h3 : 60 < x0 := by omega
      clear h
      go_enter Try.func5, Try.ntmps5
      go_wp2_with fail
      refine (known7_to (Keeps.alloc w _)).mono ?_
      rintro e w' ⟨rfl, hk⟩
      have HK := Lib.hid hk
      clear hk
      go_wp2_with fail
      go_ret
      exact ⟨rfl, HK.out⟩
set_option maxRecDepth 100000 in
set_option maxHeartbeats 4000000 in
theorem spaceParts_near (w : World) (x0 x1 : Int) (A B : Option Addr) (c d : Nat) (free : List Int) (acts : List (Int × Int)) (hf : CameI w A c free) (ha : CameA w B d acts) (h1 : ¬ (60 : Int) < acts.length) (h2 : ¬ (60 : Int) < free.length) (h3 : ¬ 60 < x0) :
    Calls Try.prog 5 #[.agg #[.int .i64 x0, .int .i64 x1], .slice A free.length c, .slice B acts.length d] w fun e w' => e = .returned (.bool true) ∧ Keeps w w' [] := by
  have HF := Lib.hid hf
  have HA := Lib.hid ha
  have HL := Lib.hid (And.intro h1 h2)
  clear hf ha
  go_enter Try.func5, Try.ntmps5
  go_wp2_with fail
  obtain ⟨W0, hW0⟩ : ∃ W0, w.alloc (.cells #[.int .i64 x0, .int .i64 x1] 22) = W0 := ⟨_, rfl⟩
  have r0 := Row.new w 22 #[.int .i64 x0, .int .i64 x1]
  have k0 := Keeps.alloc w (.cells #[.int .i64 x0, .int .i64 x1] 22)
  rw [hW0] at r0 k0 ⊢
  have H0 := Lib.hid (And.intro r0 k0)
  clear r0 k0 hW0 h1 h2
  refine (spMake_any W0 x0 x1 A c free (HF.out.lies.keep H0.out.2 (Nat.le_refl _) (by simp) |>.mono H0.out.2.size) (by have := HL.out.2; omega)).mono ?_
  cases hO : spNewL x0 x1 free with
  | none =>
    rintro e w1 ⟨rfl, hk⟩
    have H1 := Lib.hid (H0.out.2.then_ hk)
    clear hk
    go_wp2_with fail
    refine (known7_to H1.out).mono ?_
    rintro e w' ⟨rfl, hk⟩
    have HK := Lib.hid hk
    clear hk
    go_wp2_with fail
    go_ret
    exact ⟨rfl, HK.out⟩
  | some L0 =>
    rintro e w1 ⟨s, n1, n2, rfl, hN⟩
    have HC := Lib.hid (new_codes hO)
    obtain ⟨m, rfl⟩ : ∃ m : Nat, x0 = m := ⟨x0.toNat, by have := HC.out.2; omega⟩
    have hM := IMap.made w1 Try.prog 2
    have HM := Lib.hid (show SpMap W0 (w1.alloc (.map #[] 0)) s m L0 L0 w1.heap.size (keptF [] L0 ((2 : Nat) : Int)) from by
      have hk := Keeps.alloc w1 (.map #[] 0)
      have hsz := hN.h.size
      have l1 := hN.at_.p1.lt
      have l2 := hN.at_.p2.lt
      refine ⟨⟨n1, n2, hN.at_.keeps hk, hN.f1, hN.f2, by omega, by omega⟩, ?_, ⟨hN.f0, hsz⟩, hN.h.then_ hk⟩
      have := keptF_none L0
      rw [show ((2 : Nat) : Int) = 2 from rfl, this]
      exact hM)
    have hmm := @run_makeMap Try.prog
    clear hM hN hO
    go_wp2_with fail
    clear hmm
    refine (spHigh_sp HM.out.one).mono ?_
    rintro e w2 ⟨rfl, rfl⟩
    go_wp2_with fail
    go_loopw [11] (fun i wr => ∃ n : Nat, 2 ≤ n ∧ n ≤ L0.length ∧ i = .int .i64 n ∧ Hid (SpMap W0 wr s m L0 L0 w1.heap.size (keptF [] L0 n))) (fun i _ => L0.length - (intOf i).toNat)
    case atStart => exact ⟨2, Nat.le_refl _, HM.out.one.ok.1.l2, rfl, HM⟩
    case round =>
      clear HM
      obtain ⟨n, hn2, hn, rfl, HR⟩ := hrel
      have hL0 := HR.out.one.ok.1.le
      by_cases hnl : n < L0.length
      · have HB := Lib.hid hn2
        go_wp2_with fail
        refine (spIs_sp HR.out.one (n : Int) (by omega) (by omega)).mono ?_
        rintro e w3 ⟨rfl, rfl⟩
        obtain ⟨wz, hrun, hS⟩ := HR.out.store (keptF_dom (by simp) (by omega)) (x := (n : Int)) (by omega) (by omega) (.bool ((codeAt L0 (n : Int) : Int) == 1)) (keptF_step (by omega))
        have HS := Lib.hid hS
        clear hS
        go_wp2_with fail
        exact ⟨⟨n + 1, by omega, by omega, by go_num, HS⟩, by simp [intOf]; omega⟩
      · obtain rfl : n = L0.length := by omega
        have HP := Lib.hid (show SpMap W0 wr s m L0 L0 w1.heap.size (keptOf L0) ∧ KeptOk L0 L0 from ⟨by have := HR.out; rwa [keptF_end (M := []) (N := L0) (by simp)] at this, Nat.le_refl _, fun x hx => .inl hx⟩)
        clear HR
        go_wp2_with fail
        go_loopw [10, 12] (fun h i wr => ∃ (k : Nat) (L M : List Nat), h = .int .i64 L.length ∧ i = .int .i64 k ∧ k ≤ acts.length ∧ Hid (SpMap W0 wr s m L M w1.heap.size (keptOf M) ∧ KeptOk L M)) (fun _ i _ => acts.length - (intOf i).toNat)
        case atStart => exact ⟨0, L0, L0, rfl, rfl, Nat.zero_le _, HP⟩
        case round =>
          clear HP hL0 hn2 hn
          obtain ⟨k, L, M, rfl, rfl, hk, HR⟩ := hrel
          have hkm : (acts.length : Int) ≤ 60 := by have := HL.out.1; omega
          by_cases hkl : k < acts.length
          · obtain ⟨b, o, rfl, hb, hcell⟩ := HA.out.lies (by omega)
            have hc := hcell k hkl
            have hr := HA.out.r _ (List.getElem_mem hkl)
            obtain ⟨x, y, hxy⟩ : ∃ x y, acts[k] = (x, y) := ⟨_, _, rfl⟩
            rw [hxy] at hc hr
            have HY := Lib.hid hr
            have HMC := Lib.hid (show ∀ W', Keeps W0 W' [] → W'.cell? ⟨b, o + k * 2, none⟩ = some (.int .i64 x) ∧ W'.cell? ⟨b, o + k * 2 + 1, none⟩ = some (.int .i64 y) from fun W' hk => ⟨((H0.out.2.then_ hk).cell (p := ⟨b, o + k * 2, none⟩) hb (by simp)).trans hc.1, ((H0.out.2.then_ hk).cell (p := ⟨b, o + k * 2 + 1, none⟩) hb (by simp)).trans hc.2⟩)
            have c0 := (HMC.out wr HR.out.1.h).1
            have c1 := (HMC.out wr HR.out.1.h).2
            clear hc hr hb hcell hxy
            by_cases e1 : x = 1
            · subst e1
              have HQ := Lib.hid (And.intro (HR.out.2.take m) HR.out.1.one.ok)
              have HAct := Lib.hid (show spAct 1 y m L M = ((spTake m L).1, M) from rfl)
              go_wp2_with fail
              refine ((SpSense.map W0 s m w1.heap.size (keptOf M)).take HR.out.1).mono ?_
              rintro e w3 ⟨rfl, h3, _⟩
              have H3 := Lib.hid h3
              clear h3
              have HT := Lib.hid (show (spTake m L).2.2 = 0 ∨ (spTake m L).2.2 = 170 from by
                rcases spTake_cases m L with ⟨_, _, _, e⟩ | e | e <;> rw [e] <;> simp)
              have HTB := Lib.hid (show -9223372036854775808 ≤ (spTake m L).2.1 ∧ (spTake m L).2.1 ≤ 9223372036854775807 from by
                have := HR.out.1.one.ok.1.le
                rcases spTake_cases m L with ⟨_, _, _, e⟩ | e | e <;> rw [e] <;> simp <;> omega)
              generalize spTake m L = T at *
              obtain ⟨L1, n1, ec⟩ := T
              have HN := Lib.hid (show KeptOk L1 M ∧ L.length ≤ L1.length from ⟨HQ.out.1.1, HQ.out.1.2.1⟩)
              have hlt : ¬ (L1.length : Int) < L.length := by have := HN.out.2; omega
              rcases HT.out with rfl | rfl
              · have hlk := H3.out.look (x := n1) HTB.out.1 HTB.out.2
                rw [keptOf_get M HR.out.1.one.ok.2.1, show ((codeAt M n1 : Int) == 1) = false from by have h : codeAt M n1 ≠ 1 := HQ.out.1.2.2 rfl; simp; omega] at hlk
                go_wp2_with fail
                clear hlk
                refine (spHigh_sp H3.out.one).mono ?_
                rintro e w4 ⟨rfl, rfl⟩
                go_wp2_with fail
                refine (spHigh_sp H3.out.one).mono ?_
                rintro e w4 ⟨rfl, rfl⟩
                go_wp2_with fail
                obtain ⟨p4, h4⟩ : ∃ n, (spSel (plIn [4]) L1).length = n := ⟨_, rfl⟩
                obtain ⟨p2, h2⟩ : ∃ n, (spSel (plIn [2]) L1).length = n := ⟨_, rfl⟩
                obtain ⟨p3, h3'⟩ : ∃ n, (spSel (plIn [3]) L1).length = n := ⟨_, rfl⟩
                obtain ⟨pw, hw⟩ : ∃ n, (spSel (plIn [4, 3]) L1).length = n := ⟨_, rfl⟩
                have HLN := Lib.hid (show PLens L1 p4 p2 p3 pw from ⟨h4, h2, h3', hw⟩)
                have HSM := Lib.hid (HLN.out.sum H3.out.one.ok.1)
                have hs1 := HSM.out.2.2.1
                have hs2 := HSM.out.2.2.2
                have hs3 : (pw : Int) = (p4 : Int) + p3 := by have := HSM.out.2.1; omega
                have hs4 : ¬ (L1.length : Int) - 2 < (p4 : Int) + p2 + p3 := by omega
                have hw1 : IntKind.i64.wrap ((p4 : Int) + p2) = (p4 : Int) + p2 := IntWalk.i64_in _ (by omega)
                have hw2 : IntKind.i64.wrap ((p4 : Int) + p2 + p3) = (p4 : Int) + p2 + p3 := IntWalk.i64_in _ (by omega)
                have hw3 : IntKind.i64.wrap ((L1.length : Int) - 2) = (L1.length : Int) - 2 := IntWalk.i64_in _ (by omega)
                have hw4 : IntKind.i64.wrap ((p4 : Int) + p3) = (p4 : Int) + p3 := IntWalk.i64_in _ (by omega)
                clear h4 h2 h3' hw hs1 hs2
                refine (spFree_sp H3.out.one).mono ?_
                rintro e X1w ⟨v, rfl, ho, hkq⟩
                obtain ⟨Aq, cq, rfl⟩ := OwnI.slice ho
                rw [show (spSel (plIn [4]) L1).length = p4 from HLN.out.p4]
                have X1 := Lib.hid (H3.out.keeps hkq)
                clear ho hkq
                go_wp2_with fail
                refine (spNew_sp X1.out.one).mono ?_
                rintro e X2w ⟨v, rfl, ho, hkq⟩
                obtain ⟨Aq, cq, rfl⟩ := OwnI.slice ho
                rw [show (spSel (plIn [2]) L1).length = p2 from HLN.out.p2]
                have X2 := Lib.hid (X1.out.keeps hkq)
                clear ho hkq
                go_wp2_with fail
                refine (spHeld_sp X2.out.one).mono ?_
                rintro e X3w ⟨v, rfl, ho, hkq⟩
                obtain ⟨Aq, cq, rfl⟩ := OwnI.slice ho
                rw [show (spSel (plIn [3]) L1).length = p3 from HLN.out.p3]
                have X3 := Lib.hid (X2.out.keeps hkq)
                clear ho hkq
                go_wp2_with fail
                refine (spWill_sp X3.out.one).mono ?_
                rintro e X4w ⟨v, rfl, ho, hkq⟩
                obtain ⟨Aq, cq, rfl⟩ := OwnI.slice ho
                rw [show (spSel (plIn [4, 3]) L1).length = pw from HLN.out.pw]
                have X4 := Lib.hid (X3.out.keeps hkq)
                clear ho hkq
                go_wp2_with fail
                refine (spFree_sp X4.out.one).mono ?_
                rintro e X5w ⟨v, rfl, ho, hkq⟩
                obtain ⟨Aq, cq, rfl⟩ := OwnI.slice ho
                rw [show (spSel (plIn [4]) L1).length = p4 from HLN.out.p4]
                have X5 := Lib.hid (X4.out.keeps hkq)
                clear ho hkq
                go_wp2_with fail
                refine (spHeld_sp X5.out.one).mono ?_
                rintro e X6w ⟨v, rfl, ho, hkq⟩
                obtain ⟨Aq, cq, rfl⟩ := OwnI.slice ho
                rw [show (spSel (plIn [3]) L1).length = p3 from HLN.out.p3]
                have X6 := Lib.hid (X5.out.keeps hkq)
                clear ho hkq
                go_wp2_with fail
                clear hs3 hs4 hw1 hw2 hw3 hw4
                go_loopw [15, 16] (fun sm i wr => ∃ n : Nat, 2 ≤ n ∧ n ≤ L1.length ∧ sm = .int .i64 ((L1.take n).countP (fun v => decide (2 ≤ v)) : Nat) ∧ i = .int .i64 n ∧ Hid (SpMap W0 wr s m L1 M w1.heap.size (keptOf M))) (fun _ i _ => L1.length - (intOf i).toNat)
                case atStart => exact ⟨2, Nat.le_refl _, H3.out.one.ok.1.l2, by rw [H3.out.one.ok.1.count_two]; rfl, rfl, by first | exact X6 | (rw [show ((2 : Nat) : Int) = 2 from rfl, keptF_start]; exact X6)⟩
                case round =>
                  have HO1 := Lib.hid H3.out.one.ok
                  clear X1 X2 X3 X4 X5 X6 H3 HR
                  obtain ⟨n, hn2, hn, rfl, rfl, HI⟩ := hrel
                  have hl4 : (L1.length : Int) ≤ 4096 := by have := HO1.out.1.le; omega
                  by_cases hnl : n < L1.length
                  · have HB := Lib.hid hn2
                    go_wp2_with fail
                    refine (spIs_sp HI.out.one (n : Int) (by omega) (by omega)).mono ?_
                    rintro e w8 ⟨rfl, rfl⟩
                    have d0 := (HMC.out _ HI.out.h).1
                    have hv := HO1.out.1.v n hn2 hnl
                    have hst := count_step hnl
                    rw [codeAt_nat]
                    have HCN := Lib.hid (codeAt_nat L1 n)
                    obtain ⟨v, hvv⟩ : ∃ v, L1.getD n 0 = v := ⟨_, rfl⟩
                    obtain ⟨q, hq⟩ : ∃ q, (L1.take n).countP (fun v => decide (2 ≤ v)) = q := ⟨_, rfl⟩
                    have HVV := Lib.hid hvv
                    rw [hvv] at hv hst ⊢
                    rw [hq] at hst ⊢
                    have hqn : (q : Int) ≤ 4096 := by have := List.countP_le_length (p := fun v : Nat => decide (2 ≤ v)) (l := L1.take n); rw [hq, List.length_take] at this; omega
                    have hv0 : ¬ (v : Int) = 0 := by omega
                    clear hvv hq
                    by_cases e1v : v = 1
                    · subst e1v
                      have HST := Lib.hid hst
                      clear hst hv hv0
                      go_wp2_with fail
                      have HS9 := HI
                      exact ⟨⟨n + 1, by omega, by omega, by rw [HST.out]; rfl, by go_num, HS9⟩, by simp [intOf]; omega⟩
                    · have hv1 : ¬ (v : Int) = 1 := by omega
                      have HST := Lib.hid (show (L1.take (n + 1)).countP (fun v => decide (2 ≤ v)) = q + 1 by rw [hst, if_pos (by omega)])
                      clear hst hv
                      go_wp2_with fail
                      have HS9 := HI
                      exact ⟨⟨n + 1, by omega, by omega, by rw [HST.out]; go_num, by go_num, HS9⟩, by simp [intOf]; omega⟩
                  · obtain rfl : n = L1.length := by omega
                    have hsm := HSM.out.1
                    rw [List.take_length]
                    obtain ⟨q, hq⟩ : ∃ q, L1.countP (fun v => decide (2 ≤ v)) = q := ⟨_, rfl⟩
                    rw [hq] at hsm ⊢
                    have hs1 := HSM.out.2.2.1
                    have hsq : (q : Int) = (p4 : Int) + p2 + p3 := by omega
                    have hw1 : IntKind.i64.wrap ((p4 : Int) + p2) = (p4 : Int) + p2 := IntWalk.i64_in _ (by omega)
                    have hw2 : IntKind.i64.wrap ((p4 : Int) + p2 + p3) = (p4 : Int) + p2 + p3 := IntWalk.i64_in _ (by omega)
                    clear hsm hs1 hq
                    go_wp2_with fail
                    refine (spFree_sp HI.out.one).mono ?_
                    rintro e Y1w ⟨v, rfl, ho, hkq⟩
                    obtain ⟨Aq, cq, rfl⟩ := OwnI.slice ho
                    rw [show (spSel (plIn [4]) L1).length = p4 from HLN.out.p4]
                    have Y1 := Lib.hid (HI.out.keeps hkq)
                    clear ho hkq
                    go_wp2_with fail
                    refine (spNew_sp Y1.out.one).mono ?_
                    rintro e Y2w ⟨v, rfl, ho, hkq⟩
                    obtain ⟨Aq, cq, rfl⟩ := OwnI.slice ho
                    rw [show (spSel (plIn [2]) L1).length = p2 from HLN.out.p2]
                    have Y2 := Lib.hid (Y1.out.keeps hkq)
                    clear ho hkq
                    go_wp2_with fail
                    refine (spHeld_sp Y2.out.one).mono ?_
                    rintro e Y3w ⟨v, rfl, ho, hkq⟩
                    obtain ⟨Aq, cq, rfl⟩ := OwnI.slice ho
                    rw [show (spSel (plIn [3]) L1).length = p3 from HLN.out.p3]
                    have Y3 := Lib.hid (Y2.out.keeps hkq)
                    clear ho hkq
                    go_wp2_with fail
                    exact ⟨⟨k + 1, L1, M, rfl, by go_num, by omega, Lib.hid ⟨Y3.out, HN.out.1⟩⟩, by simp [intOf]; omega⟩
              · go_wp2_with fail
                refine (spHigh_sp H3.out.one).mono ?_
                rintro e w4 ⟨rfl, rfl⟩
                go_wp2_with fail
                refine (spHigh_sp H3.out.one).mono ?_
                rintro e w4 ⟨rfl, rfl⟩
                go_wp2_with fail
                obtain ⟨p4, h4⟩ : ∃ n, (spSel (plIn [4]) L1).length = n := ⟨_, rfl⟩
                obtain ⟨p2, h2⟩ : ∃ n, (spSel (plIn [2]) L1).length = n := ⟨_, rfl⟩
                obtain ⟨p3, h3'⟩ : ∃ n, (spSel (plIn [3]) L1).length = n := ⟨_, rfl⟩
                obtain ⟨pw, hw⟩ : ∃ n, (spSel (plIn [4, 3]) L1).length = n := ⟨_, rfl⟩
                have HLN := Lib.hid (show PLens L1 p4 p2 p3 pw from ⟨h4, h2, h3', hw⟩)
                have HSM := Lib.hid (HLN.out.sum H3.out.one.ok.1)
                have hs1 := HSM.out.2.2.1
                have hs2 := HSM.out.2.2.2
                have hs3 : (pw : Int) = (p4 : Int) + p3 := by have := HSM.out.2.1; omega
                have hs4 : ¬ (L1.length : Int) - 2 < (p4 : Int) + p2 + p3 := by omega
                have hw1 : IntKind.i64.wrap ((p4 : Int) + p2) = (p4 : Int) + p2 := IntWalk.i64_in _ (by omega)
                have hw2 : IntKind.i64.wrap ((p4 : Int) + p2 + p3) = (p4 : Int) + p2 + p3 := IntWalk.i64_in _ (by omega)
                have hw3 : IntKind.i64.wrap ((L1.length : Int) - 2) = (L1.length : Int) - 2 := IntWalk.i64_in _ (by omega)
                have hw4 : IntKind.i64.wrap ((p4 : Int) + p3) = (p4 : Int) + p3 := IntWalk.i64_in _ (by omega)
                clear h4 h2 h3' hw hs1 hs2
                refine (spFree_sp H3.out.one).mono ?_
                rintro e X1w ⟨v, rfl, ho, hkq⟩
                obtain ⟨Aq, cq, rfl⟩ := OwnI.slice ho
                rw [show (spSel (plIn [4]) L1).length = p4 from HLN.out.p4]
                have X1 := Lib.hid (H3.out.keeps hkq)
                clear ho hkq
                go_wp2_with fail
                refine (spNew_sp X1.out.one).mono ?_
                rintro e X2w ⟨v, rfl, ho, hkq⟩
                obtain ⟨Aq, cq, rfl⟩ := OwnI.slice ho
                rw [show (spSel (plIn [2]) L1).length = p2 from HLN.out.p2]
                have X2 := Lib.hid (X1.out.keeps hkq)
                clear ho hkq
                go_wp2_with fail
                refine (spHeld_sp X2.out.one).mono ?_
                rintro e X3w ⟨v, rfl, ho, hkq⟩
                obtain ⟨Aq, cq, rfl⟩ := OwnI.slice ho
                rw [show (spSel (plIn [3]) L1).length = p3 from HLN.out.p3]
                have X3 := Lib.hid (X2.out.keeps hkq)
                clear ho hkq
                go_wp2_with fail
                refine (spWill_sp X3.out.one).mono ?_
                rintro e X4w ⟨v, rfl, ho, hkq⟩
                obtain ⟨Aq, cq, rfl⟩ := OwnI.slice ho
                rw [show (spSel (plIn [4, 3]) L1).length = pw from HLN.out.pw]
                have X4 := Lib.hid (X3.out.keeps hkq)
                clear ho hkq
                go_wp2_with fail
                refine (spFree_sp X4.out.one).mono ?_
                rintro e X5w ⟨v, rfl, ho, hkq⟩
                obtain ⟨Aq, cq, rfl⟩ := OwnI.slice ho
                rw [show (spSel (plIn [4]) L1).length = p4 from HLN.out.p4]
                have X5 := Lib.hid (X4.out.keeps hkq)
                clear ho hkq
                go_wp2_with fail
                refine (spHeld_sp X5.out.one).mono ?_
                rintro e X6w ⟨v, rfl, ho, hkq⟩
                obtain ⟨Aq, cq, rfl⟩ := OwnI.slice ho
                rw [show (spSel (plIn [3]) L1).length = p3 from HLN.out.p3]
                have X6 := Lib.hid (X5.out.keeps hkq)
                clear ho hkq
                go_wp2_with fail
                clear hs3 hs4 hw1 hw2 hw3 hw4
                go_loopw [15, 16] (fun sm i wr => ∃ n : Nat, 2 ≤ n ∧ n ≤ L1.length ∧ sm = .int .i64 ((L1.take n).countP (fun v => decide (2 ≤ v)) : Nat) ∧ i = .int .i64 n ∧ Hid (SpMap W0 wr s m L1 M w1.heap.size (keptOf M))) (fun _ i _ => L1.length - (intOf i).toNat)
                case atStart => exact ⟨2, Nat.le_refl _, H3.out.one.ok.1.l2, by rw [H3.out.one.ok.1.count_two]; rfl, rfl, by first | exact X6 | (rw [show ((2 : Nat) : Int) = 2 from rfl, keptF_start]; exact X6)⟩
                case round =>
                  have HO1 := Lib.hid H3.out.one.ok
                  clear X1 X2 X3 X4 X5 X6 H3 HR
                  obtain ⟨n, hn2, hn, rfl, rfl, HI⟩ := hrel
                  have hl4 : (L1.length : Int) ≤ 4096 := by have := HO1.out.1.le; omega
                  by_cases hnl : n < L1.length
                  · have HB := Lib.hid hn2
                    go_wp2_with fail
                    refine (spIs_sp HI.out.one (n : Int) (by omega) (by omega)).mono ?_
                    rintro e w8 ⟨rfl, rfl⟩
                    have d0 := (HMC.out _ HI.out.h).1
                    have hv := HO1.out.1.v n hn2 hnl
                    have hst := count_step hnl
                    rw [codeAt_nat]
                    have HCN := Lib.hid (codeAt_nat L1 n)
                    obtain ⟨v, hvv⟩ : ∃ v, L1.getD n 0 = v := ⟨_, rfl⟩
                    obtain ⟨q, hq⟩ : ∃ q, (L1.take n).countP (fun v => decide (2 ≤ v)) = q := ⟨_, rfl⟩
                    have HVV := Lib.hid hvv
                    rw [hvv] at hv hst ⊢
                    rw [hq] at hst ⊢
                    have hqn : (q : Int) ≤ 4096 := by have := List.countP_le_length (p := fun v : Nat => decide (2 ≤ v)) (l := L1.take n); rw [hq, List.length_take] at this; omega
                    have hv0 : ¬ (v : Int) = 0 := by omega
                    clear hvv hq
                    by_cases e1v : v = 1
                    · subst e1v
                      have HST := Lib.hid hst
                      clear hst hv hv0
                      go_wp2_with fail
                      have HS9 := HI
                      exact ⟨⟨n + 1, by omega, by omega, by rw [HST.out]; rfl, by go_num, HS9⟩, by simp [intOf]; omega⟩
                    · have hv1 : ¬ (v : Int) = 1 := by omega
                      have HST := Lib.hid (show (L1.take (n + 1)).countP (fun v => decide (2 ≤ v)) = q + 1 by rw [hst, if_pos (by omega)])
                      clear hst hv
                      go_wp2_with fail
                      have HS9 := HI
                      exact ⟨⟨n + 1, by omega, by omega, by rw [HST.out]; go_num, by go_num, HS9⟩, by simp [intOf]; omega⟩
                  · obtain rfl : n = L1.length := by omega
                    have hsm := HSM.out.1
                    rw [List.take_length]
                    obtain ⟨q, hq⟩ : ∃ q, L1.countP (fun v => decide (2 ≤ v)) = q := ⟨_, rfl⟩
                    rw [hq] at hsm ⊢
                    have hs1 := HSM.out.2.2.1
                    have hsq : (q : Int) = (p4 : Int) + p2 + p3 := by omega
                    have hw1 : IntKind.i64.wrap ((p4 : Int) + p2) = (p4 : Int) + p2 := IntWalk.i64_in _ (by omega)
                    have hw2 : IntKind.i64.wrap ((p4 : Int) + p2 + p3) = (p4 : Int) + p2 + p3 := IntWalk.i64_in _ (by omega)
                    clear hsm hs1 hq
                    go_wp2_with fail
                    refine (spFree_sp HI.out.one).mono ?_
                    rintro e Y1w ⟨v, rfl, ho, hkq⟩
                    obtain ⟨Aq, cq, rfl⟩ := OwnI.slice ho
                    rw [show (spSel (plIn [4]) L1).length = p4 from HLN.out.p4]
                    have Y1 := Lib.hid (HI.out.keeps hkq)
                    clear ho hkq
                    go_wp2_with fail
                    refine (spNew_sp Y1.out.one).mono ?_
                    rintro e Y2w ⟨v, rfl, ho, hkq⟩
                    obtain ⟨Aq, cq, rfl⟩ := OwnI.slice ho
                    rw [show (spSel (plIn [2]) L1).length = p2 from HLN.out.p2]
                    have Y2 := Lib.hid (Y1.out.keeps hkq)
                    clear ho hkq
                    go_wp2_with fail
                    refine (spHeld_sp Y2.out.one).mono ?_
                    rintro e Y3w ⟨v, rfl, ho, hkq⟩
                    obtain ⟨Aq, cq, rfl⟩ := OwnI.slice ho
                    rw [show (spSel (plIn [3]) L1).length = p3 from HLN.out.p3]
                    have Y3 := Lib.hid (Y2.out.keeps hkq)
                    clear ho hkq
                    go_wp2_with fail
                    exact ⟨⟨k + 1, L1, M, rfl, by go_num, by omega, Lib.hid ⟨Y3.out, HN.out.1⟩⟩, by simp [intOf]; omega⟩
            · have HQ := Lib.hid (HR.out.2.act x y m)
              have HZR := Lib.hid (show RefAt wr (.agg #[.int .i64 0, .slice none 0 0, .slice none 0 0]) ((0 : Nat) : Int) [] [] from ⟨none, 0, none, 0, rfl, fun h => absurd h (by simp), fun h => absurd h (by simp)⟩)
              obtain ⟨⟨L1, M1⟩, hLM⟩ : ∃ LM, spAct x y m L M = LM := ⟨_, rfl⟩
              by_cases e3 : x = 3
              · subst e3
                obtain rfl : L1 = M1 := by
                  have h : spAct 3 y m L M = (spLasts L, spLasts L) := rfl
                  rw [h] at hLM
                  injection hLM with h1 h2
                  rw [← h1, ← h2]
                rw [hLM] at HQ
                have HN := Lib.hid HQ.out
                have HLM := Lib.hid hLM
                clear HQ hLM
                go_wp2_with fail
                refine (does_any (SpSense.map W0 s m w1.heap.size (keptOf M)) wr L M HR.out.1 _ 0 [] [] HZR.out ⟨rfl, rfl⟩ (by simp) _ y HY.out).mono ?_
                rintro e w3 ⟨g', b9, rfl, _, h2, _, _⟩
                rw [HLM.out] at h2
                have H3 := Lib.hid h2
                clear h2
                have hlt : ¬ (L1.length : Int) < L.length := by have := HN.out.2 (by omega); omega
                have HDM := Lib.hid HR.out.1.one.ok.2.1.le
                have HKE := Lib.hid (show M.length ≤ L1.length from Nat.le_trans HR.out.2.1 (HN.out.2 (by omega)))
                go_wp2_with fail
                refine (spHigh_sp H3.out.one).mono ?_
                rintro e w4 ⟨rfl, rfl⟩
                go_wp2_with fail
                refine (spHigh_sp H3.out.one).mono ?_
                rintro e w4 ⟨rfl, rfl⟩
                go_wp2_with fail
                obtain ⟨p4, h4⟩ : ∃ n, (spSel (plIn [4]) L1).length = n := ⟨_, rfl⟩
                obtain ⟨p2, h2⟩ : ∃ n, (spSel (plIn [2]) L1).length = n := ⟨_, rfl⟩
                obtain ⟨p3, h3'⟩ : ∃ n, (spSel (plIn [3]) L1).length = n := ⟨_, rfl⟩
                obtain ⟨pw, hw⟩ : ∃ n, (spSel (plIn [4, 3]) L1).length = n := ⟨_, rfl⟩
                have HLN := Lib.hid (show PLens L1 p4 p2 p3 pw from ⟨h4, h2, h3', hw⟩)
                have HSM := Lib.hid (HLN.out.sum H3.out.one.ok.1)
                have hs1 := HSM.out.2.2.1
                have hs2 := HSM.out.2.2.2
                have hs3 : (pw : Int) = (p4 : Int) + p3 := by have := HSM.out.2.1; omega
                have hs4 : ¬ (L1.length : Int) - 2 < (p4 : Int) + p2 + p3 := by omega
                have hw1 : IntKind.i64.wrap ((p4 : Int) + p2) = (p4 : Int) + p2 := IntWalk.i64_in _ (by omega)
                have hw2 : IntKind.i64.wrap ((p4 : Int) + p2 + p3) = (p4 : Int) + p2 + p3 := IntWalk.i64_in _ (by omega)
                have hw3 : IntKind.i64.wrap ((L1.length : Int) - 2) = (L1.length : Int) - 2 := IntWalk.i64_in _ (by omega)
                have hw4 : IntKind.i64.wrap ((p4 : Int) + p3) = (p4 : Int) + p3 := IntWalk.i64_in _ (by omega)
                clear h4 h2 h3' hw hs1 hs2
                refine (spFree_sp H3.out.one).mono ?_
                rintro e X1w ⟨v, rfl, ho, hkq⟩
                obtain ⟨Aq, cq, rfl⟩ := OwnI.slice ho
                rw [show (spSel (plIn [4]) L1).length = p4 from HLN.out.p4]
                have X1 := Lib.hid (H3.out.keeps hkq)
                clear ho hkq
                go_wp2_with fail
                refine (spNew_sp X1.out.one).mono ?_
                rintro e X2w ⟨v, rfl, ho, hkq⟩
                obtain ⟨Aq, cq, rfl⟩ := OwnI.slice ho
                rw [show (spSel (plIn [2]) L1).length = p2 from HLN.out.p2]
                have X2 := Lib.hid (X1.out.keeps hkq)
                clear ho hkq
                go_wp2_with fail
                refine (spHeld_sp X2.out.one).mono ?_
                rintro e X3w ⟨v, rfl, ho, hkq⟩
                obtain ⟨Aq, cq, rfl⟩ := OwnI.slice ho
                rw [show (spSel (plIn [3]) L1).length = p3 from HLN.out.p3]
                have X3 := Lib.hid (X2.out.keeps hkq)
                clear ho hkq
                go_wp2_with fail
                refine (spWill_sp X3.out.one).mono ?_
                rintro e X4w ⟨v, rfl, ho, hkq⟩
                obtain ⟨Aq, cq, rfl⟩ := OwnI.slice ho
                rw [show (spSel (plIn [4, 3]) L1).length = pw from HLN.out.pw]
                have X4 := Lib.hid (X3.out.keeps hkq)
                clear ho hkq
                go_wp2_with fail
                refine (spFree_sp X4.out.one).mono ?_
                rintro e X5w ⟨v, rfl, ho, hkq⟩
                obtain ⟨Aq, cq, rfl⟩ := OwnI.slice ho
                rw [show (spSel (plIn [4]) L1).length = p4 from HLN.out.p4]
                have X5 := Lib.hid (X4.out.keeps hkq)
                clear ho hkq
                go_wp2_with fail
                refine (spHeld_sp X5.out.one).mono ?_
                rintro e X6w ⟨v, rfl, ho, hkq⟩
                obtain ⟨Aq, cq, rfl⟩ := OwnI.slice ho
                rw [show (spSel (plIn [3]) L1).length = p3 from HLN.out.p3]
                have X6 := Lib.hid (X5.out.keeps hkq)
                clear ho hkq
                go_wp2_with fail
                clear hs3 hs4 hw1 hw2 hw3 hw4
                go_loopw [15, 16] (fun sm i wr => ∃ n : Nat, 2 ≤ n ∧ n ≤ L1.length ∧ sm = .int .i64 ((L1.take n).countP (fun v => decide (2 ≤ v)) : Nat) ∧ i = .int .i64 n ∧ Hid (SpMap W0 wr s m L1 L1 w1.heap.size (keptF M L1 n))) (fun _ i _ => L1.length - (intOf i).toNat)
                case atStart => exact ⟨2, Nat.le_refl _, H3.out.one.ok.1.l2, by rw [H3.out.one.ok.1.count_two]; rfl, rfl, by first | exact X6 | (rw [show ((2 : Nat) : Int) = 2 from rfl, keptF_start]; exact X6)⟩
                case round =>
                  have HO1 := Lib.hid H3.out.one.ok
                  clear X1 X2 X3 X4 X5 X6 H3 HR
                  obtain ⟨n, hn2, hn, rfl, rfl, HI⟩ := hrel
                  have hl4 : (L1.length : Int) ≤ 4096 := by have := HO1.out.1.le; omega
                  by_cases hnl : n < L1.length
                  · have HB := Lib.hid hn2
                    go_wp2_with fail
                    refine (spIs_sp HI.out.one (n : Int) (by omega) (by omega)).mono ?_
                    rintro e w8 ⟨rfl, rfl⟩
                    have d0 := (HMC.out _ HI.out.h).1
                    have hv := HO1.out.1.v n hn2 hnl
                    have hst := count_step hnl
                    rw [codeAt_nat]
                    have HCN := Lib.hid (codeAt_nat L1 n)
                    obtain ⟨v, hvv⟩ : ∃ v, L1.getD n 0 = v := ⟨_, rfl⟩
                    obtain ⟨q, hq⟩ : ∃ q, (L1.take n).countP (fun v => decide (2 ≤ v)) = q := ⟨_, rfl⟩
                    have HVV := Lib.hid hvv
                    rw [hvv] at hv hst ⊢
                    rw [hq] at hst ⊢
                    have hqn : (q : Int) ≤ 4096 := by have := List.countP_le_length (p := fun v : Nat => decide (2 ≤ v)) (l := L1.take n); rw [hq, List.length_take] at this; omega
                    have hv0 : ¬ (v : Int) = 0 := by omega
                    clear hvv hq
                    by_cases e1v : v = 1
                    · subst e1v
                      have HST := Lib.hid hst
                      clear hst hv hv0
                      obtain ⟨wz, hrun, hS⟩ := HI.out.store (keptF_dom HDM.out (by omega)) (x := (n : Int)) (by omega) (by omega) (.bool true) (show upd (keptF M L1 (n : Int)) (n : Int) (some (.bool true)) = keptF M L1 ((n + 1 : Nat) : Int) from by
                        have h := keptF_step (M := M) (N := L1) (n := (n : Int)) (by omega)
                        rw [HCN.out, HVV.out] at h
                        exact h)
                      have HS9 := Lib.hid hS
                      clear hS
                      go_wp2_with fail
                      exact ⟨⟨n + 1, by omega, by omega, by rw [HST.out]; rfl, by go_num, HS9⟩, by simp [intOf]; omega⟩
                    · have hv1 : ¬ (v : Int) = 1 := by omega
                      have HST := Lib.hid (show (L1.take (n + 1)).countP (fun v => decide (2 ≤ v)) = q + 1 by rw [hst, if_pos (by omega)])
                      clear hst hv
                      obtain ⟨wz, hrun, hS⟩ := HI.out.store (keptF_dom HDM.out (by omega)) (x := (n : Int)) (by omega) (by omega) (.bool ((v : Int) == 1)) (show upd (keptF M L1 (n : Int)) (n : Int) (some (.bool ((v : Int) == 1))) = keptF M L1 ((n + 1 : Nat) : Int) from by
                        have h := keptF_step (M := M) (N := L1) (n := (n : Int)) (by omega)
                        rw [HCN.out, HVV.out] at h
                        exact h)
                      have HS9 := Lib.hid hS
                      clear hS
                      go_wp2_with fail
                      exact ⟨⟨n + 1, by omega, by omega, by rw [HST.out]; go_num, by go_num, HS9⟩, by simp [intOf]; omega⟩
                  · obtain rfl : n = L1.length := by omega
                    have hsm := HSM.out.1
                    rw [List.take_length]
                    obtain ⟨q, hq⟩ : ∃ q, L1.countP (fun v => decide (2 ≤ v)) = q := ⟨_, rfl⟩
                    rw [hq] at hsm ⊢
                    have hs1 := HSM.out.2.2.1
                    have hsq : (q : Int) = (p4 : Int) + p2 + p3 := by omega
                    have hw1 : IntKind.i64.wrap ((p4 : Int) + p2) = (p4 : Int) + p2 := IntWalk.i64_in _ (by omega)
                    have hw2 : IntKind.i64.wrap ((p4 : Int) + p2 + p3) = (p4 : Int) + p2 + p3 := IntWalk.i64_in _ (by omega)
                    clear hsm hs1 hq
                    go_wp2_with fail
                    refine (spFree_sp HI.out.one).mono ?_
                    rintro e Y1w ⟨v, rfl, ho, hkq⟩
                    obtain ⟨Aq, cq, rfl⟩ := OwnI.slice ho
                    rw [show (spSel (plIn [4]) L1).length = p4 from HLN.out.p4]
                    have Y1 := Lib.hid (HI.out.keeps hkq)
                    clear ho hkq
                    go_wp2_with fail
                    refine (spNew_sp Y1.out.one).mono ?_
                    rintro e Y2w ⟨v, rfl, ho, hkq⟩
                    obtain ⟨Aq, cq, rfl⟩ := OwnI.slice ho
                    rw [show (spSel (plIn [2]) L1).length = p2 from HLN.out.p2]
                    have Y2 := Lib.hid (Y1.out.keeps hkq)
                    clear ho hkq
                    go_wp2_with fail
                    refine (spHeld_sp Y2.out.one).mono ?_
                    rintro e Y3w ⟨v, rfl, ho, hkq⟩
                    obtain ⟨Aq, cq, rfl⟩ := OwnI.slice ho
                    rw [show (spSel (plIn [3]) L1).length = p3 from HLN.out.p3]
                    have Y3 := Lib.hid (Y2.out.keeps hkq)
                    clear ho hkq
                    go_wp2_with fail
                    exact ⟨⟨k + 1, L1, L1, rfl, by go_num, by omega, Lib.hid ⟨by rw [← keptF_end HKE.out]; exact Y3.out, HN.out.1⟩⟩, by simp [intOf]; omega⟩
              · by_cases e4 : x = 4
                · subst e4
                  obtain rfl : M = M1 := by
                    have h : spAct 4 y m L M = (M, M) := rfl
                    rw [h] at hLM
                    injection hLM with h1 h2
                  rw [hLM] at HQ
                  have HN := Lib.hid HQ.out
                  have HLM := Lib.hid hLM
                  clear HQ hLM
                  go_wp2_with fail
                  refine (does_any (SpSense.map W0 s m w1.heap.size (keptOf M)) wr L M HR.out.1 _ 0 [] [] HZR.out ⟨rfl, rfl⟩ (by simp) _ y HY.out).mono ?_
                  rintro e w3 ⟨g', b9, rfl, _, h2, _, _⟩
                  rw [HLM.out] at h2
                  have H3 := Lib.hid h2
                  clear h2
                  go_wp2_with fail
                  by_cases hlt : (L1.length : Int) < L.length
                  · have d0 := (HMC.out _ H3.out.h).1
                    refine (spHigh_sp H3.out.one).mono ?_
                    rintro e w4 ⟨rfl, rfl⟩
                    go_wp2_with fail
                    refine (spHigh_sp H3.out.one).mono ?_
                    rintro e w4 ⟨rfl, rfl⟩
                    go_wp2_with fail
                    obtain ⟨p4, h4⟩ : ∃ n, (spSel (plIn [4]) L1).length = n := ⟨_, rfl⟩
                    obtain ⟨p2, h2⟩ : ∃ n, (spSel (plIn [2]) L1).length = n := ⟨_, rfl⟩
                    obtain ⟨p3, h3'⟩ : ∃ n, (spSel (plIn [3]) L1).length = n := ⟨_, rfl⟩
                    obtain ⟨pw, hw⟩ : ∃ n, (spSel (plIn [4, 3]) L1).length = n := ⟨_, rfl⟩
                    have HLN := Lib.hid (show PLens L1 p4 p2 p3 pw from ⟨h4, h2, h3', hw⟩)
                    have HSM := Lib.hid (HLN.out.sum H3.out.one.ok.1)
                    have hs1 := HSM.out.2.2.1
                    have hs2 := HSM.out.2.2.2
                    have hs3 : (pw : Int) = (p4 : Int) + p3 := by have := HSM.out.2.1; omega
                    have hs4 : ¬ (L1.length : Int) - 2 < (p4 : Int) + p2 + p3 := by omega
                    have hw1 : IntKind.i64.wrap ((p4 : Int) + p2) = (p4 : Int) + p2 := IntWalk.i64_in _ (by omega)
                    have hw2 : IntKind.i64.wrap ((p4 : Int) + p2 + p3) = (p4 : Int) + p2 + p3 := IntWalk.i64_in _ (by omega)
                    have hw3 : IntKind.i64.wrap ((L1.length : Int) - 2) = (L1.length : Int) - 2 := IntWalk.i64_in _ (by omega)
                    have hw4 : IntKind.i64.wrap ((p4 : Int) + p3) = (p4 : Int) + p3 := IntWalk.i64_in _ (by omega)
                    clear h4 h2 h3' hw hs1 hs2
                    refine (spFree_sp H3.out.one).mono ?_
                    rintro e X1w ⟨v, rfl, ho, hkq⟩
                    obtain ⟨Aq, cq, rfl⟩ := OwnI.slice ho
                    rw [show (spSel (plIn [4]) L1).length = p4 from HLN.out.p4]
                    have X1 := Lib.hid (H3.out.keeps hkq)
                    clear ho hkq
                    go_wp2_with fail
                    refine (spNew_sp X1.out.one).mono ?_
                    rintro e X2w ⟨v, rfl, ho, hkq⟩
                    obtain ⟨Aq, cq, rfl⟩ := OwnI.slice ho
                    rw [show (spSel (plIn [2]) L1).length = p2 from HLN.out.p2]
                    have X2 := Lib.hid (X1.out.keeps hkq)
                    clear ho hkq
                    go_wp2_with fail
                    refine (spHeld_sp X2.out.one).mono ?_
                    rintro e X3w ⟨v, rfl, ho, hkq⟩
                    obtain ⟨Aq, cq, rfl⟩ := OwnI.slice ho
                    rw [show (spSel (plIn [3]) L1).length = p3 from HLN.out.p3]
                    have X3 := Lib.hid (X2.out.keeps hkq)
                    clear ho hkq
                    go_wp2_with fail
                    refine (spWill_sp X3.out.one).mono ?_
                    rintro e X4w ⟨v, rfl, ho, hkq⟩
                    obtain ⟨Aq, cq, rfl⟩ := OwnI.slice ho
                    rw [show (spSel (plIn [4, 3]) L1).length = pw from HLN.out.pw]
                    have X4 := Lib.hid (X3.out.keeps hkq)
                    clear ho hkq
                    go_wp2_with fail
                    refine (spFree_sp X4.out.one).mono ?_
                    rintro e X5w ⟨v, rfl, ho, hkq⟩
                    obtain ⟨Aq, cq, rfl⟩ := OwnI.slice ho
                    rw [show (spSel (plIn [4]) L1).length = p4 from HLN.out.p4]
                    have X5 := Lib.hid (X4.out.keeps hkq)
                    clear ho hkq
                    go_wp2_with fail
                    refine (spHeld_sp X5.out.one).mono ?_
                    rintro e X6w ⟨v, rfl, ho, hkq⟩
                    obtain ⟨Aq, cq, rfl⟩ := OwnI.slice ho
                    rw [show (spSel (plIn [3]) L1).length = p3 from HLN.out.p3]
                    have X6 := Lib.hid (X5.out.keeps hkq)
                    clear ho hkq
                    go_wp2_with fail
                    clear hs3 hs4 hw1 hw2 hw3 hw4
                    go_loopw [15, 16] (fun sm i wr => ∃ n : Nat, 2 ≤ n ∧ n ≤ L1.length ∧ sm = .int .i64 ((L1.take n).countP (fun v => decide (2 ≤ v)) : Nat) ∧ i = .int .i64 n ∧ Hid (SpMap W0 wr s m L1 M w1.heap.size (keptOf M))) (fun _ i _ => L1.length - (intOf i).toNat)
                    case atStart => exact ⟨2, Nat.le_refl _, H3.out.one.ok.1.l2, by rw [H3.out.one.ok.1.count_two]; rfl, rfl, by first | exact X6 | (rw [show ((2 : Nat) : Int) = 2 from rfl, keptF_start]; exact X6)⟩
                    case round =>
                      have HO1 := Lib.hid H3.out.one.ok
                      clear X1 X2 X3 X4 X5 X6 H3 HR
                      obtain ⟨n, hn2, hn, rfl, rfl, HI⟩ := hrel
                      have hl4 : (L1.length : Int) ≤ 4096 := by have := HO1.out.1.le; omega
                      by_cases hnl : n < L1.length
                      · have HB := Lib.hid hn2
                        go_wp2_with fail
                        refine (spIs_sp HI.out.one (n : Int) (by omega) (by omega)).mono ?_
                        rintro e w8 ⟨rfl, rfl⟩
                        have d0 := (HMC.out _ HI.out.h).1
                        have hv := HO1.out.1.v n hn2 hnl
                        have hst := count_step hnl
                        rw [codeAt_nat]
                        have HCN := Lib.hid (codeAt_nat L1 n)
                        obtain ⟨v, hvv⟩ : ∃ v, L1.getD n 0 = v := ⟨_, rfl⟩
                        obtain ⟨q, hq⟩ : ∃ q, (L1.take n).countP (fun v => decide (2 ≤ v)) = q := ⟨_, rfl⟩
                        have HVV := Lib.hid hvv
                        rw [hvv] at hv hst ⊢
                        rw [hq] at hst ⊢
                        have hqn : (q : Int) ≤ 4096 := by have := List.countP_le_length (p := fun v : Nat => decide (2 ≤ v)) (l := L1.take n); rw [hq, List.length_take] at this; omega
                        have hv0 : ¬ (v : Int) = 0 := by omega
                        clear hvv hq
                        by_cases e1v : v = 1
                        · subst e1v
                          have HST := Lib.hid hst
                          clear hst hv hv0
                          go_wp2_with fail
                          have HS9 := HI
                          exact ⟨⟨n + 1, by omega, by omega, by rw [HST.out]; rfl, by go_num, HS9⟩, by simp [intOf]; omega⟩
                        · have hv1 : ¬ (v : Int) = 1 := by omega
                          have HST := Lib.hid (show (L1.take (n + 1)).countP (fun v => decide (2 ≤ v)) = q + 1 by rw [hst, if_pos (by omega)])
                          clear hst hv
                          go_wp2_with fail
                          have HS9 := HI
                          exact ⟨⟨n + 1, by omega, by omega, by rw [HST.out]; go_num, by go_num, HS9⟩, by simp [intOf]; omega⟩
                      · obtain rfl : n = L1.length := by omega
                        have hsm := HSM.out.1
                        rw [List.take_length]
                        obtain ⟨q, hq⟩ : ∃ q, L1.countP (fun v => decide (2 ≤ v)) = q := ⟨_, rfl⟩
                        rw [hq] at hsm ⊢
                        have hs1 := HSM.out.2.2.1
                        have hsq : (q : Int) = (p4 : Int) + p2 + p3 := by omega
                        have hw1 : IntKind.i64.wrap ((p4 : Int) + p2) = (p4 : Int) + p2 := IntWalk.i64_in _ (by omega)
                        have hw2 : IntKind.i64.wrap ((p4 : Int) + p2 + p3) = (p4 : Int) + p2 + p3 := IntWalk.i64_in _ (by omega)
                        clear hsm hs1 hq
                        go_wp2_with fail
                        refine (spFree_sp HI.out.one).mono ?_
                        rintro e Y1w ⟨v, rfl, ho, hkq⟩
                        obtain ⟨Aq, cq, rfl⟩ := OwnI.slice ho
                        rw [show (spSel (plIn [4]) L1).length = p4 from HLN.out.p4]
                        have Y1 := Lib.hid (HI.out.keeps hkq)
                        clear ho hkq
                        go_wp2_with fail
                        refine (spNew_sp Y1.out.one).mono ?_
                        rintro e Y2w ⟨v, rfl, ho, hkq⟩
                        obtain ⟨Aq, cq, rfl⟩ := OwnI.slice ho
                        rw [show (spSel (plIn [2]) L1).length = p2 from HLN.out.p2]
                        have Y2 := Lib.hid (Y1.out.keeps hkq)
                        clear ho hkq
                        go_wp2_with fail
                        refine (spHeld_sp Y2.out.one).mono ?_
                        rintro e Y3w ⟨v, rfl, ho, hkq⟩
                        obtain ⟨Aq, cq, rfl⟩ := OwnI.slice ho
                        rw [show (spSel (plIn [3]) L1).length = p3 from HLN.out.p3]
                        have Y3 := Lib.hid (Y2.out.keeps hkq)
                        clear ho hkq
                        go_wp2_with fail
                        exact ⟨⟨k + 1, L1, M, rfl, by go_num, by omega, Lib.hid ⟨Y3.out, HN.out.1⟩⟩, by simp [intOf]; omega⟩
                  · skip
                    refine (spHigh_sp H3.out.one).mono ?_
                    rintro e w4 ⟨rfl, rfl⟩
                    go_wp2_with fail
                    refine (spHigh_sp H3.out.one).mono ?_
                    rintro e w4 ⟨rfl, rfl⟩
                    go_wp2_with fail
                    obtain ⟨p4, h4⟩ : ∃ n, (spSel (plIn [4]) L1).length = n := ⟨_, rfl⟩
                    obtain ⟨p2, h2⟩ : ∃ n, (spSel (plIn [2]) L1).length = n := ⟨_, rfl⟩
                    obtain ⟨p3, h3'⟩ : ∃ n, (spSel (plIn [3]) L1).length = n := ⟨_, rfl⟩
                    obtain ⟨pw, hw⟩ : ∃ n, (spSel (plIn [4, 3]) L1).length = n := ⟨_, rfl⟩
                    have HLN := Lib.hid (show PLens L1 p4 p2 p3 pw from ⟨h4, h2, h3', hw⟩)
                    have HSM := Lib.hid (HLN.out.sum H3.out.one.ok.1)
                    have hs1 := HSM.out.2.2.1
                    have hs2 := HSM.out.2.2.2
                    have hs3 : (pw : Int) = (p4 : Int) + p3 := by have := HSM.out.2.1; omega
                    have hs4 : ¬ (L1.length : Int) - 2 < (p4 : Int) + p2 + p3 := by omega
                    have hw1 : IntKind.i64.wrap ((p4 : Int) + p2) = (p4 : Int) + p2 := IntWalk.i64_in _ (by omega)
                    have hw2 : IntKind.i64.wrap ((p4 : Int) + p2 + p3) = (p4 : Int) + p2 + p3 := IntWalk.i64_in _ (by omega)
                    have hw3 : IntKind.i64.wrap ((L1.length : Int) - 2) = (L1.length : Int) - 2 := IntWalk.i64_in _ (by omega)
                    have hw4 : IntKind.i64.wrap ((p4 : Int) + p3) = (p4 : Int) + p3 := IntWalk.i64_in _ (by omega)
                    clear h4 h2 h3' hw hs1 hs2
                    refine (spFree_sp H3.out.one).mono ?_
                    rintro e X1w ⟨v, rfl, ho, hkq⟩
                    obtain ⟨Aq, cq, rfl⟩ := OwnI.slice ho
                    rw [show (spSel (plIn [4]) L1).length = p4 from HLN.out.p4]
                    have X1 := Lib.hid (H3.out.keeps hkq)
                    clear ho hkq
                    go_wp2_with fail
                    refine (spNew_sp X1.out.one).mono ?_
                    rintro e X2w ⟨v, rfl, ho, hkq⟩
                    obtain ⟨Aq, cq, rfl⟩ := OwnI.slice ho
                    rw [show (spSel (plIn [2]) L1).length = p2 from HLN.out.p2]
                    have X2 := Lib.hid (X1.out.keeps hkq)
                    clear ho hkq
                    go_wp2_with fail
                    refine (spHeld_sp X2.out.one).mono ?_
                    rintro e X3w ⟨v, rfl, ho, hkq⟩
                    obtain ⟨Aq, cq, rfl⟩ := OwnI.slice ho
                    rw [show (spSel (plIn [3]) L1).length = p3 from HLN.out.p3]
                    have X3 := Lib.hid (X2.out.keeps hkq)
                    clear ho hkq
                    go_wp2_with fail
                    refine (spWill_sp X3.out.one).mono ?_
                    rintro e X4w ⟨v, rfl, ho, hkq⟩
                    obtain ⟨Aq, cq, rfl⟩ := OwnI.slice ho
                    rw [show (spSel (plIn [4, 3]) L1).length = pw from HLN.out.pw]
                    have X4 := Lib.hid (X3.out.keeps hkq)
                    clear ho hkq
                    go_wp2_with fail
                    refine (spFree_sp X4.out.one).mono ?_
                    rintro e X5w ⟨v, rfl, ho, hkq⟩
                    obtain ⟨Aq, cq, rfl⟩ := OwnI.slice ho
                    rw [show (spSel (plIn [4]) L1).length = p4 from HLN.out.p4]
                    have X5 := Lib.hid (X4.out.keeps hkq)
                    clear ho hkq
                    go_wp2_with fail
                    refine (spHeld_sp X5.out.one).mono ?_
                    rintro e X6w ⟨v, rfl, ho, hkq⟩
                    obtain ⟨Aq, cq, rfl⟩ := OwnI.slice ho
                    rw [show (spSel (plIn [3]) L1).length = p3 from HLN.out.p3]
                    have X6 := Lib.hid (X5.out.keeps hkq)
                    clear ho hkq
                    go_wp2_with fail
                    clear hs3 hs4 hw1 hw2 hw3 hw4
                    go_loopw [15, 16] (fun sm i wr => ∃ n : Nat, 2 ≤ n ∧ n ≤ L1.length ∧ sm = .int .i64 ((L1.take n).countP (fun v => decide (2 ≤ v)) : Nat) ∧ i = .int .i64 n ∧ Hid (SpMap W0 wr s m L1 M w1.heap.size (keptOf M))) (fun _ i _ => L1.length - (intOf i).toNat)
                    case atStart => exact ⟨2, Nat.le_refl _, H3.out.one.ok.1.l2, by rw [H3.out.one.ok.1.count_two]; rfl, rfl, by first | exact X6 | (rw [show ((2 : Nat) : Int) = 2 from rfl, keptF_start]; exact X6)⟩
                    case round =>
                      have HO1 := Lib.hid H3.out.one.ok
                      clear X1 X2 X3 X4 X5 X6 H3 HR
                      obtain ⟨n, hn2, hn, rfl, rfl, HI⟩ := hrel
                      have hl4 : (L1.length : Int) ≤ 4096 := by have := HO1.out.1.le; omega
                      by_cases hnl : n < L1.length
                      · have HB := Lib.hid hn2
                        go_wp2_with fail
                        refine (spIs_sp HI.out.one (n : Int) (by omega) (by omega)).mono ?_
                        rintro e w8 ⟨rfl, rfl⟩
                        have d0 := (HMC.out _ HI.out.h).1
                        have hv := HO1.out.1.v n hn2 hnl
                        have hst := count_step hnl
                        rw [codeAt_nat]
                        have HCN := Lib.hid (codeAt_nat L1 n)
                        obtain ⟨v, hvv⟩ : ∃ v, L1.getD n 0 = v := ⟨_, rfl⟩
                        obtain ⟨q, hq⟩ : ∃ q, (L1.take n).countP (fun v => decide (2 ≤ v)) = q := ⟨_, rfl⟩
                        have HVV := Lib.hid hvv
                        rw [hvv] at hv hst ⊢
                        rw [hq] at hst ⊢
                        have hqn : (q : Int) ≤ 4096 := by have := List.countP_le_length (p := fun v : Nat => decide (2 ≤ v)) (l := L1.take n); rw [hq, List.length_take] at this; omega
                        have hv0 : ¬ (v : Int) = 0 := by omega
                        clear hvv hq
                        by_cases e1v : v = 1
                        · subst e1v
                          have HST := Lib.hid hst
                          clear hst hv hv0
                          go_wp2_with fail
                          have HS9 := HI
                          exact ⟨⟨n + 1, by omega, by omega, by rw [HST.out]; rfl, by go_num, HS9⟩, by simp [intOf]; omega⟩
                        · have hv1 : ¬ (v : Int) = 1 := by omega
                          have HST := Lib.hid (show (L1.take (n + 1)).countP (fun v => decide (2 ≤ v)) = q + 1 by rw [hst, if_pos (by omega)])
                          clear hst hv
                          go_wp2_with fail
                          have HS9 := HI
                          exact ⟨⟨n + 1, by omega, by omega, by rw [HST.out]; go_num, by go_num, HS9⟩, by simp [intOf]; omega⟩
                      · obtain rfl : n = L1.length := by omega
                        have hsm := HSM.out.1
                        rw [List.take_length]
                        obtain ⟨q, hq⟩ : ∃ q, L1.countP (fun v => decide (2 ≤ v)) = q := ⟨_, rfl⟩
                        rw [hq] at hsm ⊢
                        have hs1 := HSM.out.2.2.1
                        have hsq : (q : Int) = (p4 : Int) + p2 + p3 := by omega
                        have hw1 : IntKind.i64.wrap ((p4 : Int) + p2) = (p4 : Int) + p2 := IntWalk.i64_in _ (by omega)
                        have hw2 : IntKind.i64.wrap ((p4 : Int) + p2 + p3) = (p4 : Int) + p2 + p3 := IntWalk.i64_in _ (by omega)
                        clear hsm hs1 hq
                        go_wp2_with fail
                        refine (spFree_sp HI.out.one).mono ?_
                        rintro e Y1w ⟨v, rfl, ho, hkq⟩
                        obtain ⟨Aq, cq, rfl⟩ := OwnI.slice ho
                        rw [show (spSel (plIn [4]) L1).length = p4 from HLN.out.p4]
                        have Y1 := Lib.hid (HI.out.keeps hkq)
                        clear ho hkq
                        go_wp2_with fail
                        refine (spNew_sp Y1.out.one).mono ?_
                        rintro e Y2w ⟨v, rfl, ho, hkq⟩
                        obtain ⟨Aq, cq, rfl⟩ := OwnI.slice ho
                        rw [show (spSel (plIn [2]) L1).length = p2 from HLN.out.p2]
                        have Y2 := Lib.hid (Y1.out.keeps hkq)
                        clear ho hkq
                        go_wp2_with fail
                        refine (spHeld_sp Y2.out.one).mono ?_
                        rintro e Y3w ⟨v, rfl, ho, hkq⟩
                        obtain ⟨Aq, cq, rfl⟩ := OwnI.slice ho
                        rw [show (spSel (plIn [3]) L1).length = p3 from HLN.out.p3]
                        have Y3 := Lib.hid (Y2.out.keeps hkq)
                        clear ho hkq
                        go_wp2_with fail
                        exact ⟨⟨k + 1, L1, M, rfl, by go_num, by omega, Lib.hid ⟨Y3.out, HN.out.1⟩⟩, by simp [intOf]; omega⟩
                · obtain rfl : M = M1 := by
                    have h := congrArg Prod.snd hLM
                    unfold spAct at h
                    rw [if_neg e1] at h
                    split at h
                    · exact h
                    · first
                      | exact h
                      | (rw [if_neg e3, if_neg e4] at h; exact h)
                  rw [hLM] at HQ
                  have HN := Lib.hid HQ.out
                  have HLM := Lib.hid hLM
                  clear HQ hLM
                  go_wp2_with fail
                  refine (does_any (SpSense.map W0 s m w1.heap.size (keptOf M)) wr L M HR.out.1 _ 0 [] [] HZR.out ⟨rfl, rfl⟩ (by simp) _ y HY.out).mono ?_
                  rintro e w3 ⟨g', b9, rfl, _, h2, _, _⟩
                  rw [HLM.out] at h2
                  have H3 := Lib.hid h2
                  clear h2
                  have hlt : ¬ (L1.length : Int) < L.length := by have := HN.out.2 e4; omega
                  go_wp2_with fail
                  refine (spHigh_sp H3.out.one).mono ?_
                  rintro e w4 ⟨rfl, rfl⟩
                  go_wp2_with fail
                  refine (spHigh_sp H3.out.one).mono ?_
                  rintro e w4 ⟨rfl, rfl⟩
                  go_wp2_with fail
                  obtain ⟨p4, h4⟩ : ∃ n, (spSel (plIn [4]) L1).length = n := ⟨_, rfl⟩
                  obtain ⟨p2, h2⟩ : ∃ n, (spSel (plIn [2]) L1).length = n := ⟨_, rfl⟩
                  obtain ⟨p3, h3'⟩ : ∃ n, (spSel (plIn [3]) L1).length = n := ⟨_, rfl⟩
                  obtain ⟨pw, hw⟩ : ∃ n, (spSel (plIn [4, 3]) L1).length = n := ⟨_, rfl⟩
                  have HLN := Lib.hid (show PLens L1 p4 p2 p3 pw from ⟨h4, h2, h3', hw⟩)
                  have HSM := Lib.hid (HLN.out.sum H3.out.one.ok.1)
                  have hs1 := HSM.out.2.2.1
                  have hs2 := HSM.out.2.2.2
                  have hs3 : (pw : Int) = (p4 : Int) + p3 := by have := HSM.out.2.1; omega
                  have hs4 : ¬ (L1.length : Int) - 2 < (p4 : Int) + p2 + p3 := by omega
                  have hw1 : IntKind.i64.wrap ((p4 : Int) + p2) = (p4 : Int) + p2 := IntWalk.i64_in _ (by omega)
                  have hw2 : IntKind.i64.wrap ((p4 : Int) + p2 + p3) = (p4 : Int) + p2 + p3 := IntWalk.i64_in _ (by omega)
                  have hw3 : IntKind.i64.wrap ((L1.length : Int) - 2) = (L1.length : Int) - 2 := IntWalk.i64_in _ (by omega)
                  have hw4 : IntKind.i64.wrap ((p4 : Int) + p3) = (p4 : Int) + p3 := IntWalk.i64_in _ (by omega)
                  clear h4 h2 h3' hw hs1 hs2
                  refine (spFree_sp H3.out.one).mono ?_
                  rintro e X1w ⟨v, rfl, ho, hkq⟩
                  obtain ⟨Aq, cq, rfl⟩ := OwnI.slice ho
                  rw [show (spSel (plIn [4]) L1).length = p4 from HLN.out.p4]
                  have X1 := Lib.hid (H3.out.keeps hkq)
                  clear ho hkq
                  go_wp2_with fail
                  refine (spNew_sp X1.out.one).mono ?_
                  rintro e X2w ⟨v, rfl, ho, hkq⟩
                  obtain ⟨Aq, cq, rfl⟩ := OwnI.slice ho
                  rw [show (spSel (plIn [2]) L1).length = p2 from HLN.out.p2]
                  have X2 := Lib.hid (X1.out.keeps hkq)
                  clear ho hkq
                  go_wp2_with fail
                  refine (spHeld_sp X2.out.one).mono ?_
                  rintro e X3w ⟨v, rfl, ho, hkq⟩
                  obtain ⟨Aq, cq, rfl⟩ := OwnI.slice ho
                  rw [show (spSel (plIn [3]) L1).length = p3 from HLN.out.p3]
                  have X3 := Lib.hid (X2.out.keeps hkq)
                  clear ho hkq
                  go_wp2_with fail
                  refine (spWill_sp X3.out.one).mono ?_
                  rintro e X4w ⟨v, rfl, ho, hkq⟩
                  obtain ⟨Aq, cq, rfl⟩ := OwnI.slice ho
                  rw [show (spSel (plIn [4, 3]) L1).length = pw from HLN.out.pw]
                  have X4 := Lib.hid (X3.out.keeps hkq)
                  clear ho hkq
                  go_wp2_with fail
                  refine (spFree_sp X4.out.one).mono ?_
                  rintro e X5w ⟨v, rfl, ho, hkq⟩
                  obtain ⟨Aq, cq, rfl⟩ := OwnI.slice ho
                  rw [show (spSel (plIn [4]) L1).length = p4 from HLN.out.p4]
                  have X5 := Lib.hid (X4.out.keeps hkq)
                  clear ho hkq
                  go_wp2_with fail
                  refine (spHeld_sp X5.out.one).mono ?_
                  rintro e X6w ⟨v, rfl, ho, hkq⟩
                  obtain ⟨Aq, cq, rfl⟩ := OwnI.slice ho
                  rw [show (spSel (plIn [3]) L1).length = p3 from HLN.out.p3]
                  have X6 := Lib.hid (X5.out.keeps hkq)
                  clear ho hkq
                  go_wp2_with fail
                  clear hs3 hs4 hw1 hw2 hw3 hw4
                  go_loopw [15, 16] (fun sm i wr => ∃ n : Nat, 2 ≤ n ∧ n ≤ L1.length ∧ sm = .int .i64 ((L1.take n).countP (fun v => decide (2 ≤ v)) : Nat) ∧ i = .int .i64 n ∧ Hid (SpMap W0 wr s m L1 M w1.heap.size (keptOf M))) (fun _ i _ => L1.length - (intOf i).toNat)
                  case atStart => exact ⟨2, Nat.le_refl _, H3.out.one.ok.1.l2, by rw [H3.out.one.ok.1.count_two]; rfl, rfl, by first | exact X6 | (rw [show ((2 : Nat) : Int) = 2 from rfl, keptF_start]; exact X6)⟩
                  case round =>
                    have HO1 := Lib.hid H3.out.one.ok
                    clear X1 X2 X3 X4 X5 X6 H3 HR
                    obtain ⟨n, hn2, hn, rfl, rfl, HI⟩ := hrel
                    have hl4 : (L1.length : Int) ≤ 4096 := by have := HO1.out.1.le; omega
                    by_cases hnl : n < L1.length
                    · have HB := Lib.hid hn2
                      go_wp2_with fail
                      refine (spIs_sp HI.out.one (n : Int) (by omega) (by omega)).mono ?_
                      rintro e w8 ⟨rfl, rfl⟩
                      have d0 := (HMC.out _ HI.out.h).1
                      have hv := HO1.out.1.v n hn2 hnl
                      have hst := count_step hnl
                      rw [codeAt_nat]
                      have HCN := Lib.hid (codeAt_nat L1 n)
                      obtain ⟨v, hvv⟩ : ∃ v, L1.getD n 0 = v := ⟨_, rfl⟩
                      obtain ⟨q, hq⟩ : ∃ q, (L1.take n).countP (fun v => decide (2 ≤ v)) = q := ⟨_, rfl⟩
                      have HVV := Lib.hid hvv
                      rw [hvv] at hv hst ⊢
                      rw [hq] at hst ⊢
                      have hqn : (q : Int) ≤ 4096 := by have := List.countP_le_length (p := fun v : Nat => decide (2 ≤ v)) (l := L1.take n); rw [hq, List.length_take] at this; omega
                      have hv0 : ¬ (v : Int) = 0 := by omega
                      clear hvv hq
                      by_cases e1v : v = 1
                      · subst e1v
                        have HST := Lib.hid hst
                        clear hst hv hv0
                        go_wp2_with fail
                        have HS9 := HI
                        exact ⟨⟨n + 1, by omega, by omega, by rw [HST.out]; rfl, by go_num, HS9⟩, by simp [intOf]; omega⟩
                      · have hv1 : ¬ (v : Int) = 1 := by omega
                        have HST := Lib.hid (show (L1.take (n + 1)).countP (fun v => decide (2 ≤ v)) = q + 1 by rw [hst, if_pos (by omega)])
                        clear hst hv
                        go_wp2_with fail
                        have HS9 := HI
                        exact ⟨⟨n + 1, by omega, by omega, by rw [HST.out]; go_num, by go_num, HS9⟩, by simp [intOf]; omega⟩
                    · obtain rfl : n = L1.length := by omega
                      have hsm := HSM.out.1
                      rw [List.take_length]
                      obtain ⟨q, hq⟩ : ∃ q, L1.countP (fun v => decide (2 ≤ v)) = q := ⟨_, rfl⟩
                      rw [hq] at hsm ⊢
                      have hs1 := HSM.out.2.2.1
                      have hsq : (q : Int) = (p4 : Int) + p2 + p3 := by omega
                      have hw1 : IntKind.i64.wrap ((p4 : Int) + p2) = (p4 : Int) + p2 := IntWalk.i64_in _ (by omega)
                      have hw2 : IntKind.i64.wrap ((p4 : Int) + p2 + p3) = (p4 : Int) + p2 + p3 := IntWalk.i64_in _ (by omega)
                      clear hsm hs1 hq
                      go_wp2_with fail
                      refine (spFree_sp HI.out.one).mono ?_
                      rintro e Y1w ⟨v, rfl, ho, hkq⟩
                      obtain ⟨Aq, cq, rfl⟩ := OwnI.slice ho
                      rw [show (spSel (plIn [4]) L1).length = p4 from HLN.out.p4]
                      have Y1 := Lib.hid (HI.out.keeps hkq)
                      clear ho hkq
                      go_wp2_with fail
                      refine (spNew_sp Y1.out.one).mono ?_
                      rintro e Y2w ⟨v, rfl, ho, hkq⟩
                      obtain ⟨Aq, cq, rfl⟩ := OwnI.slice ho
                      rw [show (spSel (plIn [2]) L1).length = p2 from HLN.out.p2]
                      have Y2 := Lib.hid (Y1.out.keeps hkq)
                      clear ho hkq
                      go_wp2_with fail
                      refine (spHeld_sp Y2.out.one).mono ?_
                      rintro e Y3w ⟨v, rfl, ho, hkq⟩
                      obtain ⟨Aq, cq, rfl⟩ := OwnI.slice ho
                      rw [show (spSel (plIn [3]) L1).length = p3 from HLN.out.p3]
                      have Y3 := Lib.hid (Y2.out.keeps hkq)
                      clear ho hkq
                      go_wp2_with fail
                      exact ⟨⟨k + 1, L1, M, rfl, by go_num, by omega, Lib.hid ⟨Y3.out, HN.out.1⟩⟩, by simp [intOf]; omega⟩
          · obtain rfl : k = acts.length := by omega
            go_wp2_with fail
            refine (known7_to (H0.out.2.then_ HR.out.1.h)).mono ?_
            rintro e w' ⟨rfl, hk⟩
            have HK := Lib.hid hk
            clear hk
            go_wp2_with fail
            go_ret
            exact ⟨rfl, HK.out⟩
set_option maxRecDepth 100000 in
theorem spaceParts_any (w : World) (x0 x1 : Int) (A B : Option Addr) (c d : Nat) (free : List Int) (acts : List (Int × Int)) (hf : CameI w A c free) (ha : CameA w B d acts) :
    Calls Try.prog 5 #[.agg #[.int .i64 x0, .int .i64 x1], .slice A free.length c, .slice B acts.length d] w fun e w' => e = .returned (.bool true) ∧ Keeps w w' [] := by
  by_cases h : (60 : Int) < acts.length ∨ (60 : Int) < free.length ∨ 60 < x0
  · exact spaceParts_far w x0 x1 A B c d _ _ h
  · exact spaceParts_near w x0 x1 A B c d free acts hf ha (by omega) (by omega) (by omega)
end Go.Proofs.Ytanbdkfkkochgaa
