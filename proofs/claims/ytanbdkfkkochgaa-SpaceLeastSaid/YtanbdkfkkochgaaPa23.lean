/- The statement SpaceLeast (layer 7): its walk. -/
import Derived.Test.YtanbdkfkkochgaaPa21
import Derived.Test.YtanbdkfkkochgaaPa22
import Derived.Test.YtanbdkfkkochgaaPa19

namespace Go.Proofs.Ytanbdkfkkochgaa
open Go.RowKit Go.Maps Go.Shelf

theorem known7_on {w w' : World} (h : Keeps w w' []) : Calls Try.prog 9 #[] w' fun e w'' => e = .returned (.bool true) ∧ Keeps w w'' [] :=
  (known7_any w').mono fun _ _ ⟨a, b⟩ => ⟨a, h.then_ b⟩
set_option maxRecDepth 100000 in
set_option maxHeartbeats 4000000 in
theorem spaceLeast_far (w : World) (x0 x1 : Int) (A B : Option Addr) (c d n m : Nat) (h : (60 : Int) < n ∨ (60 : Int) < m ∨ 60 < x0) :
    Calls Try.prog 3 #[.agg #[.int .i64 x0, .int .i64 x1], .slice A n c, .slice B m d] w fun e w' => e = .returned (.bool true) ∧ Keeps w w' [] := by
  by_cases h1 : (60 : Int) < n
  · clear h
    go_enter Try.func3, Try.ntmps3
    go_wp2_with fail
    refine (known7_on (Keeps.alloc w _)).mono ?_
    rintro e w' ⟨rfl, hk⟩
    have HK := Lib.hid hk
    clear hk
    go_wp2_with fail
    go_ret
    exact ⟨rfl, HK.out⟩
  · by_cases h2 : (60 : Int) < m
    · clear h
      go_enter Try.func3, Try.ntmps3
      go_wp2_with fail
      refine (known7_on (Keeps.alloc w _)).mono ?_
      rintro e w' ⟨rfl, hk⟩
      have HK := Lib.hid hk
      clear hk
      go_wp2_with fail
      go_ret
      exact ⟨rfl, HK.out⟩
    · have h3 : 60 < x0 := by omega
      clear h
      go_enter Try.func3, Try.ntmps3
      go_wp2_with fail
      refine (known7_on (Keeps.alloc w _)).mono ?_
      rintro e w' ⟨rfl, hk⟩
      have HK := Lib.hid hk
      clear hk
      go_wp2_with fail
      go_ret
      exact ⟨rfl, HK.out⟩
def lenOf : Value → Nat
  | .slice _ n _ => n
  | _ => 0
/-- Pages that were taken. -/
structure LeastAt (w0 wr : World) (B0 s most : Nat) (L0 : List Nat) (F f1 : List Int) (v : Value) (L : List Nat) : Prop where
  sp : SpIn w0 wr s most L L0
  own : OwnL wr B0 2 (Value.int .i64) v f1
  hs : s < B0 ∧ B0 ≤ wr.heap.size
  td : f1 ++ todo most L = F
  c2 : ∀ x ∈ f1, codeAt L x = 2
/-- Pages that are left, others given back. -/
structure LeftAt (w0 wr : World) (B0 s most : Nat) (L0 : List Nat) (F left : List Int) (v1 v : Value) (L : List Nat) : Prop where
  sp : SpIn w0 wr s most L L0
  own : OwnL wr B0 2 (Value.int .i64) v1 F
  own2 : OwnL wr B0 2 (Value.int .i64) v left
  hs : s < B0 ∧ B0 ≤ wr.heap.size
  c2 : ∀ x ∈ left, codeAt L x = 2
  nd : left.Nodup
  cnt : (spSel (fun v => v == 4) L).length + left.length = F.length
  lm : L.length = most
theorem sixty {F : List Int} {most : Nat} (hs : F.Pairwise (· < ·)) (hF : ∀ x ∈ F, 2 ≤ x ∧ x < most) : F.length ≤ most := by
  have h := nodup_le F ((List.range most).map fun n : Nat => (n : Int)) (hs.imp fun {a b} h => by omega) fun x hx => by
    have := hF x hx
    exact List.mem_map.2 ⟨x.toNat, List.mem_range.2 (by omega), by omega⟩
  simpa using h
/-- Pages are taken again. -/
structure AgainAt (w0 wr : World) (B0 s most : Nat) (L0 : List Nat) (F : List Int) (v1 : Value) (j : Nat) (y : Int) (L : List Nat) : Prop where
  sp : SpIn w0 wr s most L L0
  own : OwnL wr B0 2 (Value.int .i64) v1 F
  hs : s < B0 ∧ B0 ≤ wr.heap.size
  cnt : (todo most L).length + j = F.length
  lo : ∀ z ∈ todo most L, y < z
  lm : L.length = most
theorem AgainAt.of_left {w0 wr : World} {B0 s most : Nat} {L0 : List Nat} {F left : List Int} {v1 v : Value} {L : List Nat} (h : LeftAt w0 wr B0 s most L0 F left v1 v L) : AgainAt w0 wr B0 s most L0 F v1 left.length 0 L := by
  refine ⟨h.sp, h.own, h.hs, ?_, fun z hz => by have := todo_in h.sp.ok.1 hz; omega, h.lm⟩
  unfold todo
  rw [h.lm, Nat.sub_self, ← h.cnt]
  simp
set_option maxRecDepth 100000 in
set_option maxHeartbeats 4000000 in
theorem spaceLeast_near (w : World) (x0 x1 : Int) (A B : Option Addr) (c d : Nat) (free picks : List Int) (hf : CameI w A c free) (hp : CameI w B d picks) (h1 : ¬ (60 : Int) < free.length) (h2 : ¬ (60 : Int) < picks.length) (h3 : ¬ 60 < x0) :
    Calls Try.prog 3 #[.agg #[.int .i64 x0, .int .i64 x1], .slice A free.length c, .slice B picks.length d] w fun e w' => e = .returned (.bool true) ∧ Keeps w w' [] := by
  have HF := Lib.hid hf
  have HP := Lib.hid hp
  have HL := Lib.hid (And.intro h1 (And.intro h2 h3))
  clear hf hp
  go_enter Try.func3, Try.ntmps3
  go_wp2_with fail
  have r0 := Row.new w 22 #[.int .i64 x0, .int .i64 x1]
  have k0 := Keeps.alloc w (.cells #[.int .i64 x0, .int .i64 x1] 22)
  obtain ⟨W0, hW0⟩ : ∃ W0, w.alloc (.cells #[.int .i64 x0, .int .i64 x1] 22) = W0 := ⟨_, rfl⟩
  rw [hW0] at r0 k0 ⊢
  have H0 := Lib.hid (And.intro r0 k0)
  clear r0 k0 hW0 h1 h2 h3
  refine (spMake_any W0 x0 x1 A c free (HF.out.lies.keep H0.out.2 (Nat.le_refl _) (by simp) |>.mono H0.out.2.size) (by have := HL.out.1; omega)).mono ?_
  obtain ⟨O, hO⟩ : ∃ O, spNewL x0 x1 free = O := ⟨_, rfl⟩
  rw [hO]
  cases O with
  | none =>
    rintro e w1 ⟨rfl, hk⟩
    have HK1 := Lib.hid hk
    clear hk hO
    go_wp2_with fail
    refine (known7_on (H0.out.2.then_ HK1.out)).mono ?_
    rintro e w' ⟨rfl, hk⟩
    have HK := Lib.hid hk
    clear hk
    go_wp2_with fail
    go_ret
    exact ⟨rfl, HK.out⟩
  | some L0 =>
    rintro e w1 ⟨s, n1, n2, rfl, hN⟩
    have HN := Lib.hid (SpIn.new hN)
    have HC := Lib.hid hO
    obtain ⟨m, rfl⟩ : ∃ m : Nat, x0 = m := ⟨x0.toNat, by have := (new_codes hO).2.2; omega⟩
    clear hN hO
    obtain ⟨F, hF⟩ : ∃ F, todo m L0 = F := ⟨_, rfl⟩
    have HFd := Lib.hid hF
    have hm60 : m ≤ 60 := by have := HL.out.2.2; omega
    have hF60 : F.length ≤ 60 := by
      have hx := (new_codes HC.out).2
      have := sixty (F := F) (most := m) (by rw [← hF]; exact todo_sorted m L0) (fun x hx' => by
        rw [← hF] at hx'
        have := todo_in HN.out.ok.1 hx'
        omega)
      omega
    have HS := Lib.hid (show LeastAt W0 w1 w1.heap.size s m L0 F [] (.slice none 0 0) L0 from ⟨HN.out, OwnL.nil _ _, ⟨HN.out.lt, Nat.le_refl _⟩, hF, by simp⟩)
    have HB := Lib.hid hF60
    clear hF hm60
    go_wp2_with fail
    go_loopw [9] (fun v wr => ∃ (A1 : Option Addr) (q1 : Nat) (f1 : List Int) (L : List Nat), v = .slice A1 f1.length q1 ∧ f1.length ≤ F.length ∧ Hid (LeastAt W0 wr w1.heap.size s m L0 F f1 (.slice A1 f1.length q1) L)) (fun v _ => F.length - lenOf v)
    case atStart => exact ⟨none, 0, [], L0, rfl, Nat.zero_le _, HS⟩
    case round =>
      obtain ⟨A1, q1, f1, L, rfl, hfl, HL1⟩ := hrel
      have hF60 := HB.out
      cases htd : todo m L with
      | cons n r =>
        obtain ⟨L', e1, e2, e3, e4, e5⟩ := spTake_next htd
        have htd' := HL1.out.td
        rw [htd] at htd'
        have HT := Lib.hid (And.intro htd' (And.intro e2 e4))
        have hfl' : f1.length + 1 ≤ F.length := by rw [← htd']; simp
        clear htd htd' hfl e5
        go_wp2_with fail
        refine (spTake_sp HL1.out.sp).mono ?_
        rw [e1]
        rintro e w2 ⟨rfl, h, hap⟩
        have H2 := Lib.hid (And.intro h (And.intro (OwnL.apart HL1.out.own hap HL1.out.hs.1) (Nat.le_trans HL1.out.hs.2 hap.size)))
        clear h hap e1 e2 e3 e4
        have HLN := Lib.hid (lies_one w2 2 (.int .i64 n))
        go_wp2_with (at_builtin; refine wpList_append_list rfl (.tmp 55) (.tmp 57) elemI64 one_i64 rfl w1.heap.size (.slice A1 f1.length q1) (some ⟨w2.heap.size, 0, none⟩) 1 f1 [n] rfl rfl (H2.out.2.1.keeps (Keeps.alloc _ _)) HLN.out (by simp; omega) (by have := H2.out.2.2; simp; omega) ?_; intro A2 q2 w3 f2 hf2 hl2 ho2 hk2 _; have hle : ¬ (60 : Int) < f2.length := (by simp at hl2; omega); have H3 := Lib.hid (And.intro hf2.out (And.intro ho2 hk2)); clear hf2 ho2 hk2)
        have hfl2 : f2.length = f1.length + 1 := by simp at hl2; omega
        refine ⟨⟨A2, q2, f2, L', rfl, by omega, Lib.hid ⟨?_, H3.out.2.1, ⟨HL1.out.hs.1, ?_⟩, ?_, fun x hx => ?_⟩⟩, by simp only [lenOf]; omega⟩
        · exact (H2.out.1.keeps (Keeps.alloc _ _)).appended (H2.out.2.1.keeps (Keeps.alloc _ _)) HL1.out.hs.1 HN.out.h.size H3.out.2.2
        · have q1 := H3.out.2.2.size
          have q2 := H2.out.2.2
          rw [World.size_alloc] at q1
          omega
        · rw [H3.out.1, HT.out.2.1, List.append_assoc]
          exact HT.out.1
        · rw [HT.out.2.2]
          rw [H3.out.1] at hx
          rcases List.mem_append.1 hx with hx | hx
          · split
            · rfl
            · exact HL1.out.c2 x hx
          · rw [if_pos (by simpa using hx)]
      | nil =>
        obtain ⟨e1, e2⟩ := spTake_done htd
        have htd' := HL1.out.td
        rw [htd, List.append_nil] at htd'
        subst htd'
        have hlm := e2 HL1.out.sp.ok.2.2.1
        have HM := Lib.hid hlm
        clear e2 hlm htd hfl
        go_wp2_with fail
        refine (spTake_sp HL1.out.sp).mono ?_
        rw [e1]
        rintro e w2 ⟨rfl, h, hap⟩
        have H2 := Lib.hid (And.intro h (And.intro (OwnL.apart HL1.out.own hap HL1.out.hs.1) (Nat.le_trans HL1.out.hs.2 hap.size)))
        clear h hap e1
        go_wp2_with fail
        have hco := new_codes HC.out
        have hEq : (f1.length : Int) = free.length + ((m : Int) - x1) := by
          have e : f1 = todo m L0 := HFd.out.symm
          rw [e]
          unfold todo
          rw [new_free HC.out, List.length_append, List.length_map, List.length_range']
          have := hco.2
          omega
        have hx1 : 2 ≤ x1 ∧ x1 ≤ m ∧ (m : Int) ≤ 4096 := ⟨hco.2.2.1, hco.2.2.2.1, hco.2.2.2.2.1⟩
        have hfr := HL.out.1
        have hwr : IntKind.i64.wrap (free.length + IntKind.i64.wrap ((m : Int) - x1)) = f1.length := by
          rw [IntWalk.i64_in ((m : Int) - x1) (by omega), IntWalk.i64_in _ (by omega), hEq]
        have HEq := Lib.hid (And.intro hEq hx1)
        have M0 := fun (W' : World) (hW : Keeps w2 W' []) => ((H0.out.1.keeps H2.out.1.h).keeps hW).cell 0
        have M1 := fun (W' : World) (hW : Keeps w2 W' []) => ((H0.out.1.keeps H2.out.1.h).keeps hW).cell 1
        simp only [List.getElem?_toArray, List.getElem?_cons_zero, List.getElem?_cons_succ] at M0 M1
        clear hco hEq hx1 hfr
        refine wp_region_keeps _ (by kernel_rfl) rfl (by kernel_rfl) ?_
        apply loose_is
        · intro W vals hW hkn
          clear hkn
          refine ⟨?_⟩
          simp only [fill]
          go_simp
          first | exact ⟨Keeps.refl _ _, rfl⟩ | exact ⟨Keeps.alloc _ _, rfl⟩
        simp only [addEnt]
        apply loose_is
        · intro W vals hW hkn
          clear hkn
          refine ⟨?_⟩
          simp only [fill]
          go_simp
          first | exact ⟨Keeps.refl _ _, rfl⟩ | exact ⟨Keeps.alloc _ _, rfl⟩
        simp only [addEnt]
        apply loose_is
        · intro W vals hW hkn
          clear hkn
          refine ⟨?_⟩
          simp only [fill]
          go_simp
          first | exact ⟨Keeps.refl _ _, rfl⟩ | exact ⟨Keeps.alloc _ _, rfl⟩
        simp only [addEnt]
        apply loose_is
        · intro W vals hW hkn
          clear hkn
          refine ⟨?_⟩
          simp only [fill]
          go_simp
          first | exact ⟨Keeps.refl _ _, rfl⟩ | exact ⟨Keeps.alloc _ _, rfl⟩
        simp only [addEnt]
        apply loose_is
        · intro W vals hW hkn
          clear hkn
          refine ⟨?_⟩
          simp only [fill]
          go_simp
          first | exact ⟨Keeps.refl _ _, rfl⟩ | exact ⟨Keeps.alloc _ _, rfl⟩
        simp only [addEnt]
        apply loose_is
        · intro W vals hW hkn
          clear hkn
          refine ⟨?_⟩
          simp only [fill]
          go_simp
          first | exact ⟨Keeps.refl _ _, rfl⟩ | exact ⟨Keeps.alloc _ _, rfl⟩
        simp only [addEnt]
        apply loose_is
        · intro W vals hW hkn
          clear hkn
          refine ⟨?_⟩
          simp only [fill]
          go_simp
          first | exact ⟨Keeps.refl _ _, rfl⟩ | exact ⟨Keeps.alloc _ _, rfl⟩
        simp only [addEnt]
        apply loose_is
        · intro W vals hW hkn
          clear hkn
          refine ⟨?_⟩
          simp only [fill]
          go_simp
          first | exact ⟨Keeps.refl _ _, rfl⟩ | exact ⟨Keeps.alloc _ _, rfl⟩
        simp only [addEnt]
        apply loose_is
        · intro W vals hW hkn
          clear hkn
          refine ⟨?_⟩
          simp only [fill]
          go_simp
          first | exact ⟨Keeps.refl _ _, rfl⟩ | exact ⟨Keeps.alloc _ _, rfl⟩
        simp only [addEnt]
        apply loose_is
        · intro W vals hW hkn
          clear hkn
          refine ⟨?_⟩
          simp only [fill]
          go_simp
          first | exact ⟨Keeps.refl _ _, rfl⟩ | exact ⟨Keeps.alloc _ _, rfl⟩
        simp only [addEnt]
        apply loose_is
        · intro W vals hW hkn
          clear hkn
          refine ⟨?_⟩
          simp only [fill]
          go_simp
          first | exact ⟨Keeps.refl _ _, rfl⟩ | exact ⟨Keeps.alloc _ _, rfl⟩
        simp only [addEnt]
        apply loose_is
        · intro W vals hW hkn
          clear hkn
          refine ⟨?_⟩
          simp only [fill]
          go_simp
          first | exact ⟨Keeps.refl _ _, rfl⟩ | exact ⟨Keeps.alloc _ _, rfl⟩
        simp only [addEnt]
        apply loose_is
        · intro W vals hW hkn
          clear hkn
          refine ⟨?_⟩
          simp only [fill]
          go_simp
          first | exact ⟨Keeps.refl _ _, rfl⟩ | exact ⟨Keeps.alloc _ _, rfl⟩
        simp only [addEnt]
        apply loose_is
        · intro W vals hW hkn
          clear hkn
          refine ⟨?_⟩
          simp only [fill]
          go_simp
          refine looseUpon_calls ?_
          exact (spHigh_sp (H2.out.1.keeps hW)).mono (by rintro e w' ⟨rfl, rfl⟩; rw [HM.out]; exact ⟨_, rfl, Keeps.refl _ _, rfl⟩)
        simp only [addEnt]
        apply loose_is
        · intro W vals hW hkn
          clear hkn
          refine ⟨?_⟩
          simp only [fill]
          go_simp
          first | exact ⟨Keeps.refl _ _, rfl⟩ | exact ⟨Keeps.alloc _ _, rfl⟩
        simp only [addEnt]
        apply loose_is
        · intro W vals hW hkn
          clear hkn
          refine ⟨?_⟩
          simp only [fill]
          go_simp
          first | exact ⟨Keeps.refl _ _, rfl⟩ | exact ⟨Keeps.alloc _ _, rfl⟩
        simp only [addEnt]
        apply loose_is
        · intro W vals hW hkn
          clear hkn
          refine ⟨?_⟩
          simp only [fill]
          go_simp
          first | exact ⟨Keeps.refl _ _, rfl⟩ | exact ⟨Keeps.alloc _ _, rfl⟩
        simp only [addEnt]
        apply loose_is
        · intro W vals hW hkn
          clear hkn
          refine ⟨?_⟩
          simp only [fill]
          go_simp
          first | exact ⟨Keeps.refl _ _, rfl⟩ | exact ⟨Keeps.alloc _ _, rfl⟩
        simp only [addEnt]
        refine loose_nil (fun W vals hW hkn => ?_)
        simp only [knowsAll] at hkn
        try simp only [and_true] at hkn
        simp only [fill, Act.put, List.setIfInBounds_toArray, List.set_cons_succ, List.set_cons_zero]
        clear hkn hwr M0 M1
        have H3 := Lib.hid (And.intro (H2.out.1.keeps hW) (And.intro (H2.out.2.1.keeps hW) (Nat.le_trans H2.out.2.2 hW.size)))
        clear hW
        have HTD := Lib.hid HL1.out
        go_wp2_with (at_builtin; refine wpList_append_list rfl (Operand.const (.slice none 0 0)) (.tmp 80) elemI64 one_i64 rfl W.heap.size (.slice none 0 0) A1 q1 [] f1 rfl rfl (OwnL.nil _ _) (OwnL.lies H3.out.2.1) (by simp; omega) (Nat.le_refl _) ?_; intro A2 q2 w4 lf hlf hll ho4 hk4 _; have H4 := Lib.hid (And.intro hlf.out (And.intro ho4 (show Keeps W w4 [] from hk4))); clear hlf ho4 hk4)
        have hll2 : lf.length = f1.length := by simp at hll; omega
        have hlf : lf = f1 := by rw [H4.out.1, List.nil_append]
        subst hlf
        have HI0 := Lib.hid (show LeftAt W0 w4 w1.heap.size s m L0 lf lf (.slice A1 lf.length q1) (.slice A2 lf.length q2) L from by
          have h0 := HTD.out
          have ht : lf.Pairwise (· < ·) := by
            have e : lf = todo m L0 := HFd.out.symm
            rw [e]
            exact todo_sorted m L0
          refine ⟨H3.out.1.keeps H4.out.2.2, OwnL.keeps H3.out.2.1 H4.out.2.2, OwnL.base H4.out.2.1 H3.out.2.2, ⟨HL1.out.hs.1, Nat.le_trans H3.out.2.2 H4.out.2.2.size⟩, h0.c2, ht.imp (fun {a b} h => by omega), ?_, HM.out⟩
          have h1 := h0.td
          have h2 : todo m L = [] := by
            have := congrArg List.length h1
            rw [List.length_append] at this
            exact List.length_eq_zero_iff.1 (by omega)
          unfold todo at h2
          rw [(List.append_eq_nil_iff.1 h2).1]
          simp)
        have hpk : (picks.length : Int) ≤ 60 := by have := HL.out.2.1; omega
        clear hll hll2
        go_wp2_with fail
        go_loopw [12, 13] (fun v i wr => ∃ (A5 : Option Addr) (q5 : Nat) (left : List Int) (k : Nat) (L5 : List Nat), v = .slice A5 left.length q5 ∧ i = .int .i64 k ∧ k ≤ picks.length ∧ left.length ≤ lf.length ∧ Hid (LeftAt W0 wr w1.heap.size s m L0 lf left (.slice A1 lf.length q1) (.slice A5 left.length q5) L5)) (fun _ i _ => picks.length - (intOf i).toNat)
        case atStart => exact ⟨A2, q2, lf, 0, L, rfl, rfl, Nat.zero_le _, Nat.le_refl _, HI0⟩
        case round =>
          obtain ⟨A5, q5, left, k, L5, rfl, rfl, hk, hll, HI⟩ := hrel
          clear H2 H3 H4 HL1 HTD HI0
          by_cases hgo : k < picks.length ∧ 0 < left.length
          · obtain ⟨hkl, hpos⟩ := hgo
            obtain ⟨bp, op, rfl, hbp, hcp⟩ := (HP.out.lies.keep (H0.out.2.then_ HI.out.sp.h) (Nat.le_refl _) (by simp)).at_ (k := k) (by simpa using hkl)
            rw [List.getElem_map] at hcp
            obtain ⟨p, hp⟩ : ∃ p, picks[k] = p := ⟨_, rfl⟩
            rw [hp] at hcp
            have hpos' : (0 : Int) < left.length := by omega
            have hnz : (left.length : Int) ≠ 0 := by omega
            obtain ⟨kk, hkk, hkl2⟩ : ∃ kk : Nat, (wrap64 (p.tmod left.length + left.length)).tmod left.length = kk ∧ kk < left.length := by
              have t1 := Int.tmod_lt_of_pos p hpos'
              have t2 := Int.lt_tmod_of_pos p hpos'
              have t3 := IntWalk.i64_in (p.tmod left.length + left.length) (by omega)
              rw [IntWalk.i64_left] at t3
              rw [t3]
              have t4 := Int.tmod_nonneg (left.length : Int) (show 0 ≤ p.tmod left.length + left.length by omega)
              have t5 := Int.tmod_lt_of_pos (p.tmod left.length + left.length) hpos'
              exact ⟨((p.tmod left.length + left.length).tmod left.length).toNat, by omega, by omega⟩
            obtain ⟨bl, ol, rfl, hbl, hcl⟩ := (OwnL.lies HI.out.own2).at_ (k := kk) (by simpa using hkl2)
            rw [List.getElem_map] at hcl
            have hx2 := HI.out.c2 _ (List.getElem_mem hkl2)
            obtain ⟨x, hx⟩ : ∃ x, left[kk] = x := ⟨_, rfl⟩
            rw [hx] at hcl hx2
            obtain ⟨g1, g2, g3⟩ := give_count hx2
            have HG := Lib.hid (And.intro hx (And.intro g2 g3))
            have hxb : -9223372036854775808 ≤ x ∧ x ≤ 9223372036854775807 := by
              have := HI.out.sp.ok.1.nz (x := x) (by omega)
              have := HI.out.sp.ok.1.le
              omega
            have HXB := Lib.hid hxb
            clear hp hbp hbl hx hx2 g2 g3 hxb
            go_wp2_with fail
            refine (spGive_sp HI.out.sp x HXB.out.1 HXB.out.2).mono ?_
            rw [g1]
            rintro e w5 ⟨rfl, h, hap⟩
            have H5 := Lib.hid (And.intro h (And.intro (OwnL.apart HI.out.own hap HI.out.hs.1) (And.intro (OwnL.apart HI.out.own2 hap HI.out.hs.1) (Nat.le_trans HI.out.hs.2 hap.size))))
            have hq5 := (OwnL.cap HI.out.own2).2.1
            have hkq : kk ≤ q5 := by omega
            obtain ⟨k1, hk1⟩ : ∃ k1, kk + 1 = k1 := ⟨_, rfl⟩
            have hwk : IntKind.i64.wrap ((kk : Int) + 1) = (k1 : Int) := by rw [IntWalk.i64_in _ (by omega)]; omega
            have hk1l : k1 ≤ left.length := by omega
            obtain ⟨A6, hA6⟩ : ∃ A6, (if q5 = k1 then some (⟨bl, ol, none⟩ : Addr) else some ⟨bl, ol + k1, none⟩) = A6 := ⟨_, rfl⟩
            have HL6 := Lib.hid (show ∀ W, Lies W W.heap.size (some ⟨bl, ol, none⟩) (left.map (Value.int .i64)) → Lies W W.heap.size A6 ((left.drop k1).map (Value.int .i64)) from fun W h => by
              have h1 := h.cut (k := k1) (cap := q5) (by simpa using hq5)
              rw [← hA6, List.map_drop]
              simpa [Addr.add_lit] using h1)
            have HK1 := Lib.hid hk1
            clear h hap g1 hcl hcp hk1
            go_wp2_with fail
            refine wp_region_tail KeepsAll _ 8 (by kernel_rfl) rfl (by kernel_rfl) (fun _ => Keeps.refl _ _) (fun _ _ _ h k => h.trans k (by simp)) (Keeps.drew _) ?_
            simp only [List.take_succ_cons, List.take_zero, List.drop_succ_cons, List.drop_zero]
            apply loose_is
            · intro W vals hW hkn
              clear hkn
              refine ⟨?_⟩
              simp only [fill]
              go_simp
              first | exact ⟨Keeps.refl _ _, rfl⟩ | exact ⟨Keeps.alloc _ _, rfl⟩
            simp only [addEnt]
            apply loose_is
            · intro W vals hW hkn
              clear hkn
              refine ⟨?_⟩
              simp only [fill]
              go_simp
              first | exact ⟨Keeps.refl _ _, rfl⟩ | exact ⟨Keeps.alloc _ _, rfl⟩
            simp only [addEnt]
            apply loose_is
            · intro W vals hW hkn
              clear hkn
              refine ⟨?_⟩
              simp only [fill]
              go_simp
              first | exact ⟨Keeps.refl _ _, rfl⟩ | exact ⟨Keeps.alloc _ _, rfl⟩
            simp only [addEnt]
            refine loose_has (fun v W' => ∃ A' c', v = .slice A' kk c' ∧ OwnL W' w5.heap.size 2 (Value.int .i64) v (left.take kk)) (fun W vals hW hkn φ' hφ => ?_) ?_
            · clear hkn
              simp only [fill]
              exact opOk_append_new elemI64 one_i64 rfl (Operand.const (.slice none 0 0)) (.tmp 115) rfl (some ⟨bl, ol, none⟩) kk q5 (left.take kk) (by simp; omega) rfl rfl (by rw [List.map_take]; exact (OwnL.lies (OwnL.keeps H5.out.2.2.1 hW)).take kk) (by simp; omega) hW.size hφ
            simp only [addEnt]
            apply loose_is
            · intro W vals hW hkn
              clear hkn
              refine ⟨?_⟩
              simp only [fill]
              go_simp
              first | exact ⟨Keeps.refl _ _, rfl⟩ | exact ⟨Keeps.alloc _ _, rfl⟩
            simp only [addEnt]
            apply loose_is
            · intro W vals hW hkn
              clear hkn
              refine ⟨?_⟩
              simp only [fill]
              go_simp
              first | exact ⟨Keeps.refl _ _, rfl⟩ | exact ⟨Keeps.alloc _ _, rfl⟩
            simp only [addEnt]
            apply loose_is
            · intro W vals hW hkn
              clear hkn
              refine ⟨?_⟩
              simp only [fill]
              go_simp
              first | exact ⟨Keeps.refl _ _, rfl⟩ | exact ⟨Keeps.alloc _ _, rfl⟩
            simp only [addEnt]
            apply loose_is
            · intro W vals hW hkn
              clear hkn
              refine ⟨?_⟩
              simp only [fill]
              go_simp
              first | exact ⟨Keeps.refl _ _, rfl⟩ | exact ⟨Keeps.alloc _ _, rfl⟩
            simp only [addEnt]
            refine loose_nil (fun W vals hW hkn => ?_)
            simp only [knowsAll] at hkn
            try simp only [and_true] at hkn
            simp only [fill, Act.put, List.setIfInBounds_toArray, List.set_cons_succ, List.set_cons_zero]
            obtain ⟨W', ka, kb, A', c', hv, ho⟩ := hkn
            rw [hv] at ho ⊢
            have hl6 : left.length - k1 = (left.drop k1).length := by simp
            rw [hl6]
            have hll6 : (left.take kk).length = kk := by simp; omega
            have H6 := Lib.hid (And.intro (OwnL.keeps ho kb) (show Keeps w5 W [] from hW))
            clear ho hv ka kb hW hA6
            refine wpList_append_list rfl (.tmp 116) (.tmp 120) elemI64 one_i64 rfl w5.heap.size (.slice A' kk c') A6 (q5 - k1) (left.take kk) (left.drop k1) rfl rfl H6.out.1 (HL6.out W (OwnL.lies (OwnL.keeps H5.out.2.2.1 H6.out.2))) (by rw [hll6, ← hl6]; omega) H6.out.2.size ?_
            intro A7 q7 w6 l7 hl7 hlen7 ho7 hk7 _
            have H7 := Lib.hid (And.intro hl7.out (And.intro ho7 (H6.out.2.trans hk7 (fun y hy hlt => by have := (OwnL.far H6.out.1 y hy).1; omega))))
            have hlen8 : l7.length + 1 = left.length := by have := HK1.out; rw [hll6, ← hl6] at hlen7; omega
            clear hl7 ho7 hk7 hlen7 hll6 hl6 hwk
            go_wp2_with fail
            have hlt := H7.out.1
            rw [← HK1.out] at hlt
            obtain ⟨p1, p2⟩ := pick_left hkl2 HI.out.nd
            rw [← hlt] at p1 p2
            have hcnt := HI.out.cnt
            have hg2 := HG.out.2.1
            refine ⟨⟨A7, q7, l7, k + 1, L5.set x.toNat 4, rfl, by go_num, by omega, by omega, Lib.hid ⟨H5.out.1.keeps H7.out.2.2, OwnL.keeps H5.out.2.1 H7.out.2.2, OwnL.base H7.out.2.1 H5.out.2.2.2, ⟨HI.out.hs.1, Nat.le_trans H5.out.2.2.2 H7.out.2.2.size⟩, fun y hy => ?_, p1, by omega, by rw [List.length_set]; exact HI.out.lm⟩⟩, by simp [intOf]; omega⟩
            rw [HG.out.2.2]
            have := p2 y hy
            rw [HG.out.1] at this
            rw [if_neg this.2]
            exact HI.out.c2 y this.1
          · clear HP hpk
            by_cases hkl : k < picks.length
            · have h0 : left.length = 0 := by omega
              have H00 := Lib.hid h0
              go_wp2_with fail
              clear h0
              have HI9 := Lib.hid (AgainAt.of_left HI.out)
              go_loopw [15, 16] (fun l i wr => ∃ (j : Nat) (y : Int) (L6 : List Nat), l = .int .i64 y ∧ i = .int .i64 j ∧ j ≤ lf.length ∧ Hid (AgainAt W0 wr w1.heap.size s m L0 lf (.slice A1 lf.length q1) j y L6)) (fun _ i _ => lf.length - (intOf i).toNat)
              case atStart => exact ⟨left.length, 0, L5, rfl, (by first | rfl | (rw [H00.out]; rfl)), hll, HI9⟩
              case round =>
                clear HI HI9 hk hll
                obtain ⟨j, y, L6, rfl, rfl, hj, HJ⟩ := hrel
                by_cases hjl : j < lf.length
                · cases htd : todo m L6 with
                  | nil =>
                    have := HJ.out.cnt
                    rw [htd, List.length_nil] at this
                    omega
                  | cons n r =>
                    obtain ⟨L', e1, e2, e3, e4, e5⟩ := spTake_next htd
                    have hlo := HJ.out.lo n (by rw [htd]; simp)
                    have hso := todo_sorted m L6
                    have hct := HJ.out.cnt
                    rw [htd] at hso hct
                    have HT := Lib.hid (And.intro hso (And.intro hct (And.intro e2 (e5 HJ.out.lm))))
                    have hnl : ¬ n ≤ y := by omega
                    clear htd hlo hso hct e5
                    go_wp2_with fail
                    refine (spTake_sp HJ.out.sp).mono ?_
                    rw [e1]
                    rintro e w7 ⟨rfl, h, hap⟩
                    have H8 := Lib.hid (And.intro h (And.intro (OwnL.apart HJ.out.own hap HJ.out.hs.1) (Nat.le_trans HJ.out.hs.2 hap.size)))
                    clear h hap e1 e2 e3 e4
                    go_wp2_with fail
                    refine ⟨⟨j + 1, n, L', rfl, by go_num, by omega, Lib.hid ⟨H8.out.1, H8.out.2.1, ⟨HJ.out.hs.1, H8.out.2.2⟩, ?_, fun z hz => ?_, HT.out.2.2.2⟩⟩, by simp [intOf]; omega⟩
                    · have := HT.out.2.1
                      rw [HT.out.2.2.1]
                      rw [List.length_cons] at this
                      omega
                    · rw [HT.out.2.2.1] at hz
                      exact (List.pairwise_cons.1 HT.out.1).1 z hz
                · obtain rfl : j = lf.length := by omega
                  go_wp2_with fail
                  go_loopw [19] (fun i wz => ∃ j : Nat, i = .int .i64 ((j : Int) + 1) ∧ j ≤ lf.length ∧ Hid (SpIn W0 wz s m L6 L0 ∧ OwnL wz w1.heap.size 2 (Value.int .i64) (.slice A1 lf.length q1) lf)) (fun i _ => lf.length + 2 - (intOf i).toNat)
                  case atStart => exact ⟨0, rfl, Nat.zero_le _, Lib.hid ⟨HJ.out.sp, HJ.out.own⟩⟩
                  case round =>
                    clear HJ
                    obtain ⟨j, rfl, hj, HZ⟩ := hrel
                    by_cases hjl : j + 1 < lf.length
                    · obtain ⟨bf, of, rfl, hbf, hcf⟩ := (OwnL.lies HZ.out.2) (by simp; omega)
                      have d0 := hcf j (.int .i64 lf[j]) (by simp)
                      have d1 := hcf (j + 1) (.int .i64 lf[j + 1]) (by simp)
                      have hlt := List.pairwise_iff_getElem.1 (show lf.Pairwise (· < ·) from by have e : lf = todo m L0 := HFd.out.symm; rw [e]; exact todo_sorted m L0) j (j + 1) (by omega) hjl (by omega)
                      obtain ⟨xa, hxa⟩ : ∃ x, lf[j] = x := ⟨_, rfl⟩
                      obtain ⟨xb, hxb⟩ : ∃ x, lf[j + 1] = x := ⟨_, rfl⟩
                      rw [hxa] at d0 hlt
                      rw [hxb] at d1 hlt
                      have hnge : ¬ xb ≤ xa := by omega
                      have hjl0 : j < lf.length := by omega
                      have hjl1 : (j : Int) + 1 < lf.length := by omega
                      clear hcf hxa hxb hbf
                      go_wp2_with fail
                      go_region
                      go_wp2_with fail
                      exact ⟨⟨j + 1, by go_num, by omega, Lib.hid ⟨HZ.out.1.keeps (Keeps.drew _), OwnL.keeps HZ.out.2 (Keeps.drew _)⟩⟩, by simp [intOf]; omega⟩
                    · have hje : (lf.length : Int) ≤ (j : Int) + 1 := by omega
                      go_wp2_with fail
                      clear hje
                      refine (spUndo_sp HZ.out.1).mono ?_
                      rintro e w8 ⟨rfl, h, _⟩
                      have HU := Lib.hid h
                      clear h
                      go_wp2_with fail
                      refine (spNew_sp HU.out).mono ?_
                      rw [show plIn [2] = fun v => v == 2 from plIn_beq 2, new_none HC.out]
                      rintro e w9 ⟨v, rfl, ho, hk⟩
                      obtain ⟨A3, q3, rfl⟩ : ∃ A c, v = .slice A 0 c := OwnI.slice ho
                      have HU9 := Lib.hid (HU.out.keeps hk)
                      clear ho hk
                      go_wp2_with fail
                      refine (spFree_sp HU9.out).mono ?_
                      rw [show plIn [4] = fun v => v == 4 from plIn_beq 4, new_free HC.out]
                      rintro e w10 ⟨v, rfl, ho, hk⟩
                      obtain ⟨A4, q4, rfl⟩ := OwnI.slice ho
                      have HU10 := Lib.hid (HU9.out.keeps hk)
                      clear ho hk
                      go_wp2_with fail
                      refine (known7_on (H0.out.2.then_ HU10.out.h)).mono ?_
                      rintro e w' ⟨rfl, hk⟩
                      have HK := Lib.hid hk
                      clear hk
                      go_wp2_with fail
                      go_ret
                      exact ⟨rfl, HK.out⟩
            · obtain rfl : k = picks.length := by omega
              have H00 := Lib.hid True.intro
              go_wp2_with fail
              have HI9 := Lib.hid (AgainAt.of_left HI.out)
              go_loopw [15, 16] (fun l i wr => ∃ (j : Nat) (y : Int) (L6 : List Nat), l = .int .i64 y ∧ i = .int .i64 j ∧ j ≤ lf.length ∧ Hid (AgainAt W0 wr w1.heap.size s m L0 lf (.slice A1 lf.length q1) j y L6)) (fun _ i _ => lf.length - (intOf i).toNat)
              case atStart => exact ⟨left.length, 0, L5, rfl, (by first | rfl | (rw [H00.out]; rfl)), hll, HI9⟩
              case round =>
                clear HI HI9 hk hll
                obtain ⟨j, y, L6, rfl, rfl, hj, HJ⟩ := hrel
                by_cases hjl : j < lf.length
                · cases htd : todo m L6 with
                  | nil =>
                    have := HJ.out.cnt
                    rw [htd, List.length_nil] at this
                    omega
                  | cons n r =>
                    obtain ⟨L', e1, e2, e3, e4, e5⟩ := spTake_next htd
                    have hlo := HJ.out.lo n (by rw [htd]; simp)
                    have hso := todo_sorted m L6
                    have hct := HJ.out.cnt
                    rw [htd] at hso hct
                    have HT := Lib.hid (And.intro hso (And.intro hct (And.intro e2 (e5 HJ.out.lm))))
                    have hnl : ¬ n ≤ y := by omega
                    clear htd hlo hso hct e5
                    go_wp2_with fail
                    refine (spTake_sp HJ.out.sp).mono ?_
                    rw [e1]
                    rintro e w7 ⟨rfl, h, hap⟩
                    have H8 := Lib.hid (And.intro h (And.intro (OwnL.apart HJ.out.own hap HJ.out.hs.1) (Nat.le_trans HJ.out.hs.2 hap.size)))
                    clear h hap e1 e2 e3 e4
                    go_wp2_with fail
                    refine ⟨⟨j + 1, n, L', rfl, by go_num, by omega, Lib.hid ⟨H8.out.1, H8.out.2.1, ⟨HJ.out.hs.1, H8.out.2.2⟩, ?_, fun z hz => ?_, HT.out.2.2.2⟩⟩, by simp [intOf]; omega⟩
                    · have := HT.out.2.1
                      rw [HT.out.2.2.1]
                      rw [List.length_cons] at this
                      omega
                    · rw [HT.out.2.2.1] at hz
                      exact (List.pairwise_cons.1 HT.out.1).1 z hz
                · obtain rfl : j = lf.length := by omega
                  go_wp2_with fail
                  go_loopw [19] (fun i wz => ∃ j : Nat, i = .int .i64 ((j : Int) + 1) ∧ j ≤ lf.length ∧ Hid (SpIn W0 wz s m L6 L0 ∧ OwnL wz w1.heap.size 2 (Value.int .i64) (.slice A1 lf.length q1) lf)) (fun i _ => lf.length + 2 - (intOf i).toNat)
                  case atStart => exact ⟨0, rfl, Nat.zero_le _, Lib.hid ⟨HJ.out.sp, HJ.out.own⟩⟩
                  case round =>
                    clear HJ
                    obtain ⟨j, rfl, hj, HZ⟩ := hrel
                    by_cases hjl : j + 1 < lf.length
                    · obtain ⟨bf, of, rfl, hbf, hcf⟩ := (OwnL.lies HZ.out.2) (by simp; omega)
                      have d0 := hcf j (.int .i64 lf[j]) (by simp)
                      have d1 := hcf (j + 1) (.int .i64 lf[j + 1]) (by simp)
                      have hlt := List.pairwise_iff_getElem.1 (show lf.Pairwise (· < ·) from by have e : lf = todo m L0 := HFd.out.symm; rw [e]; exact todo_sorted m L0) j (j + 1) (by omega) hjl (by omega)
                      obtain ⟨xa, hxa⟩ : ∃ x, lf[j] = x := ⟨_, rfl⟩
                      obtain ⟨xb, hxb⟩ : ∃ x, lf[j + 1] = x := ⟨_, rfl⟩
                      rw [hxa] at d0 hlt
                      rw [hxb] at d1 hlt
                      have hnge : ¬ xb ≤ xa := by omega
                      have hjl0 : j < lf.length := by omega
                      have hjl1 : (j : Int) + 1 < lf.length := by omega
                      clear hcf hxa hxb hbf
                      go_wp2_with fail
                      go_region
                      go_wp2_with fail
                      exact ⟨⟨j + 1, by go_num, by omega, Lib.hid ⟨HZ.out.1.keeps (Keeps.drew _), OwnL.keeps HZ.out.2 (Keeps.drew _)⟩⟩, by simp [intOf]; omega⟩
                    · have hje : (lf.length : Int) ≤ (j : Int) + 1 := by omega
                      go_wp2_with fail
                      clear hje
                      refine (spUndo_sp HZ.out.1).mono ?_
                      rintro e w8 ⟨rfl, h, _⟩
                      have HU := Lib.hid h
                      clear h
                      go_wp2_with fail
                      refine (spNew_sp HU.out).mono ?_
                      rw [show plIn [2] = fun v => v == 2 from plIn_beq 2, new_none HC.out]
                      rintro e w9 ⟨v, rfl, ho, hk⟩
                      obtain ⟨A3, q3, rfl⟩ : ∃ A c, v = .slice A 0 c := OwnI.slice ho
                      have HU9 := Lib.hid (HU.out.keeps hk)
                      clear ho hk
                      go_wp2_with fail
                      refine (spFree_sp HU9.out).mono ?_
                      rw [show plIn [4] = fun v => v == 4 from plIn_beq 4, new_free HC.out]
                      rintro e w10 ⟨v, rfl, ho, hk⟩
                      obtain ⟨A4, q4, rfl⟩ := OwnI.slice ho
                      have HU10 := Lib.hid (HU9.out.keeps hk)
                      clear ho hk
                      go_wp2_with fail
                      refine (known7_on (H0.out.2.then_ HU10.out.h)).mono ?_
                      rintro e w' ⟨rfl, hk⟩
                      have HK := Lib.hid hk
                      clear hk
                      go_wp2_with fail
                      go_ret
                      exact ⟨rfl, HK.out⟩
set_option maxRecDepth 100000 in
theorem spaceLeast_any (w : World) (x0 x1 : Int) (A B : Option Addr) (c d : Nat) (free picks : List Int) (hf : CameI w A c free) (hp : CameI w B d picks) :
    Calls Try.prog 3 #[.agg #[.int .i64 x0, .int .i64 x1], .slice A free.length c, .slice B picks.length d] w fun e w' => e = .returned (.bool true) ∧ Keeps w w' [] := by
  by_cases h : (60 : Int) < free.length ∨ (60 : Int) < picks.length ∨ 60 < x0
  · exact spaceLeast_far w x0 x1 A B c d _ _ h
  · exact spaceLeast_near w x0 x1 A B c d free picks hf hp (by omega) (by omega) (by omega)
end Go.Proofs.Ytanbdkfkkochgaa
