/- Layer 18: no part's bytes begin with another one's: the law. -/
import Derived.Test.YtckmlmedhchpaaaDoorPa35

namespace Go.Proofs.YtckmlmedhchpaaaDoor
open Go.RowKit

set_option maxRecDepth 100000 in
set_option maxHeartbeats 4000000 in
theorem keysPrefix_big1 (w : World) (A B : Option Addr) (ca cb : Nat) (a b : List KP) (hA : Lies w w.heap.size A (kFlat a)) (hM : MaxL w) (hf : kFew a = false) :
    Calls Tryd.prog 7 #[.slice A a.length ca, .slice B b.length cb] w fun e w' => e = .returned (.bool true) ∧ Keeps w w' [] := by
  have HKN := Lib.hid (known_at hM)
  have HF := Lib.hid (few_at hA ca hf)
  clear hM hA hf
  have HM := Lib.hid (Keeps.refl w [])
  go_enter Tryd.func7, Tryd.ntmps7
  go_wp2_with fail
  refine (HF.out _ HM.out).mono ?_
  rintro e w' ⟨rfl, hk⟩
  replace HM := Lib.hid (HM.out.trans hk (by simp))
  clear hk
  go_wp2_with fail
  refine (HKN.out _ HM.out).mono ?_
  rintro e w' ⟨rfl, hk⟩
  replace HM := Lib.hid (HM.out.trans hk (by simp))
  clear hk
  go_wp2_with fail
  go_ret
  exact ⟨rfl, HM.out⟩
set_option maxRecDepth 100000 in
set_option maxHeartbeats 4000000 in
theorem keysPrefix_big2 (w : World) (A B : Option Addr) (ca cb : Nat) (a b : List KP) (hA : Lies w w.heap.size A (kFlat a)) (hB : Lies w w.heap.size B (kFlat b)) (hM : MaxL w) (hf : kFew a = true) (hg : kFew b = false) :
    Calls Tryd.prog 7 #[.slice A a.length ca, .slice B b.length cb] w fun e w' => e = .returned (.bool true) ∧ Keeps w w' [] := by
  have HKN := Lib.hid (known_at hM)
  have HF := Lib.hid (few_at hA ca hf)
  have HG := Lib.hid (few_at hB cb hg)
  clear hM hA hB hf hg
  have HM := Lib.hid (Keeps.refl w [])
  go_enter Tryd.func7, Tryd.ntmps7
  go_wp2_with fail
  refine (HF.out _ HM.out).mono ?_
  rintro e w' ⟨rfl, hk⟩
  replace HM := Lib.hid (HM.out.trans hk (by simp))
  clear hk
  go_wp2_with fail
  refine (HG.out _ HM.out).mono ?_
  rintro e w' ⟨rfl, hk⟩
  replace HM := Lib.hid (HM.out.trans hk (by simp))
  clear hk
  go_wp2_with fail
  refine (HKN.out _ HM.out).mono ?_
  rintro e w' ⟨rfl, hk⟩
  replace HM := Lib.hid (HM.out.trans hk (by simp))
  clear hk
  go_wp2_with fail
  go_ret
  exact ⟨rfl, HM.out⟩
/-- One part of a row. -/
structure PAt (w : World) (b o : Nat) (j : Nat) (p : KP) : Prop where
  cells : ∀ W, Keeps w W [] → W.cell? ⟨b, o + j * 4, none⟩ = some (.int .i64 p.k) ∧ W.cell? ⟨b, o + j * 4 + 1, none⟩ = some (.int .i64 p.n) ∧ W.cell? ⟨b, o + j * 4 + 2, none⟩ = some (.float .f64 p.f) ∧ W.cell? ⟨b, o + j * 4 + 3, none⟩ = some (strV p.s)
  lt : b < w.heap.size
  ok : p.Ok
  len : p.s.length ≤ 1000
theorem PAt.lies {w : World} {b o j : Nat} {p : KP} (h : PAt w b o j p) {W : World} (hk : Keeps w W []) : Lies W W.heap.size (some ⟨b, o + j * 4, none⟩) (kFlat [p]) := fun _ => by
  obtain ⟨c0, c1, c2, c3⟩ := h.cells W hk
  refine ⟨b, o + j * 4, rfl, Nat.lt_of_lt_of_le h.lt hk.size, fun i u hu => ?_⟩
  match i, hu with
  | 0, hu => injection hu with hu; subst hu; exact c0
  | 1, hu => injection hu with hu; subst hu; exact c1
  | 2, hu => injection hu with hu; subst hu; exact c2
  | 3, hu => injection hu with hu; subst hu; exact c3
theorem PAt.of {w : World} {A : Option Addr} {l : List KP} (h : KArg w A l) {j : Nat} (hj : j < l.length) : ∃ b o, A = some ⟨b, o, none⟩ ∧ PAt w b o j l[j] := by
  obtain ⟨b, o, hA, hb, hc⟩ := kpAt h.lies (Nat.le_refl _) hj
  exact ⟨b, o, hA, hc, hb, h.ok _ (List.getElem_mem _), h.text _ (List.getElem_mem _)⟩
/-- What a round of the law reads. -/
structure PPair (w : World) (b1 o1 j b2 o2 m : Nat) (k n : Int) (f : Nat) (s : ByteArray) (k2 n2 : Int) (f2 : Nat) (s2 : ByteArray) (X Y : List UInt8) (ea eb : Nat) (c : Int) : Prop where
  c1 : ∀ W, Keeps w W [] → W.cell? ⟨b1, o1 + j * 4, none⟩ = some (.int .i64 k) ∧ W.cell? ⟨b1, o1 + j * 4 + 1, none⟩ = some (.int .i64 n) ∧ W.cell? ⟨b1, o1 + j * 4 + 2, none⟩ = some (.float .f64 f) ∧ W.cell? ⟨b1, o1 + j * 4 + 3, none⟩ = some (.string s)
  c2 : ∀ W, Keeps w W [] → W.cell? ⟨b2, o2 + m * 4, none⟩ = some (.int .i64 k2) ∧ W.cell? ⟨b2, o2 + m * 4 + 1, none⟩ = some (.int .i64 n2) ∧ W.cell? ⟨b2, o2 + m * 4 + 2, none⟩ = some (.float .f64 f2) ∧ W.cell? ⟨b2, o2 + m * 4 + 3, none⟩ = some (.string s2)
  r1 : ∀ W, Keeps w W [] → Calls Tryd.prog 14 #[.slice (some ⟨W.heap.size, 0, none⟩) 1 1] (W.alloc (.cells #[.int .i64 k, .int .i64 n, .float .f64 f, .string s] 34)) fun e w' => e = .returned (.tuple #[.string ⟨X.toArray⟩, .int .i64 (ea : Nat)]) ∧ Keeps W w' []
  r2 : ∀ W, Keeps w W [] → Calls Tryd.prog 14 #[.slice (some ⟨W.heap.size, 0, none⟩) 1 1] (W.alloc (.cells #[.int .i64 k2, .int .i64 n2, .float .f64 f2, .string s2] 34)) fun e w' => e = .returned (.tuple #[.string ⟨Y.toArray⟩, .int .i64 (eb : Nat)]) ∧ Keeps W w' []
  cmp : ∀ W, Keeps w W [] → ∀ cc1 cc2 : Nat, Calls Tryd.prog 22 #[.slice (some ⟨b1, o1 + j * 4, none⟩) 1 cc1, .slice (some ⟨b2, o2 + m * 4, none⟩) 1 cc2] W fun e w' => e = .returned (.int .i64 c) ∧ Keeps W w' []
  eq : ea = 0 → eb = 0 → ∀ N, N = min X.length Y.length → (X.take N == Y.take N) = (c == 0)
theorem PPair.of {w : World} {b1 o1 j b2 o2 m : Nat} {p q : KP} (h1 : PAt w b1 o1 j p) (h2 : PAt w b2 o2 m q) (hM : MaxL w) : ∃ s s2 X Y ea eb c, PPair w b1 o1 j b2 o2 m p.k p.n p.f s q.k q.n q.f s2 X Y ea eb c := by
  refine ⟨⟨p.s.toArray⟩, ⟨q.s.toArray⟩, kKey [p], kKey [q], kErr [p], kErr [q], kCmp [p] [q], h1.cells, h2.cells, fun W hk => kRaw_call W p h1.ok (hM.keeps hk) h1.len, fun W hk => kRaw_call W q h2.ok (hM.keeps hk) h2.len, fun W hk cc1 cc2 => ?_, fun e1 e2 N hN => ?_⟩
  · exact kCompare_any W _ _ cc1 cc2 [p] [q] (by simpa using h1.ok) (by simpa using h2.ok) (h1.lies hk) (h2.lies hk) (by simp) (by simp)
  · have g1 : kKey [p] = kRaw [p] := if_pos e1
    have g2 : kKey [q] = kRaw [q] := if_pos e2
    have m1 := kErr_may (.inl e1)
    have m2 := kErr_may (.inl e2)
    rw [g1, g2] at hN ⊢
    rw [part_prefix p q h1.ok h2.ok (by simpa using m1) (by simpa using m2) N hN]
    exact (by rw [Bool.eq_iff_iff]; simp : decide (kCmp [p] [q] = 0) = (kCmp [p] [q] == 0))
set_option maxRecDepth 100000 in
set_option maxHeartbeats 8000000 in
theorem keysPrefix_few (w : World) (A B : Option Addr) (ca cb : Nat) (a b : List KP) (hA : KArg w A a) (hB : KArg w B b) (fa : kFew a = true) (fb : kFew b = true) (hca : a.length ≤ ca) (hcb : b.length ≤ cb) :
    Calls Tryd.prog 7 #[.slice A a.length ca, .slice B b.length cb] w fun e w' => e = .returned (.bool true) ∧ Keeps w w' [] := by
  have HKN := Lib.hid (known_at hA.max)
  have HF := Lib.hid (few_at hA.lies ca fa)
  have HG := Lib.hid (few_at hB.lies cb fb)
  have HX := Lib.hid hA.max
  have l1 := (kFew_spec fa).1
  have l2 := (kFew_spec fb).1
  obtain ⟨na, hna⟩ : ∃ n, a.length = n := ⟨_, rfl⟩
  obtain ⟨nb, hnb⟩ : ∃ n, b.length = n := ⟨_, rfl⟩
  have HA := Lib.hid (show ∀ j, j < na → ∃ bl o p, A = some ⟨bl, o, none⟩ ∧ PAt w bl o j p from fun j hj => by
    obtain ⟨bl, o, e, h⟩ := PAt.of hA (j := j) (by omega)
    exact ⟨bl, o, _, e, h⟩)
  have HB := Lib.hid (show ∀ j, j < nb → ∃ bl o p, B = some ⟨bl, o, none⟩ ∧ PAt w bl o j p from fun j hj => by
    obtain ⟨bl, o, e, h⟩ := PAt.of hB (j := j) (by omega)
    exact ⟨bl, o, _, e, h⟩)
  rw [hna] at HF l1 hca ⊢
  rw [hnb] at HG l2 hcb ⊢
  clear hA hB fa fb hna hnb
  have HM := Lib.hid (Keeps.refl w [])
  go_enter Tryd.func7, Tryd.ntmps7
  go_wp2_with fail
  refine (HF.out _ HM.out).mono ?_
  rintro e w' ⟨rfl, hk⟩
  replace HM := Lib.hid (HM.out.trans hk (by simp))
  clear hk
  go_wp2_with fail
  refine (HG.out _ HM.out).mono ?_
  rintro e w' ⟨rfl, hk⟩
  replace HM := Lib.hid (HM.out.trans hk (by simp))
  clear hk
  go_wp2_with fail
  go_loopw [5] (fun i wr => ∃ j : Nat, j ≤ na ∧ i = .int .i64 j ∧ Keeps w wr []) (fun i _ => na - (intOf i).toNat)
  case atStart => exact ⟨0, by omega, rfl, HM.out⟩
  case round =>
    obtain ⟨j, hj, rfl, hkp⟩ := hrel
    clear HM
    have HM := Lib.hid hkp
    clear hkp
    by_cases hja : j < na
    · obtain ⟨b1, o1, p, rfl, P1⟩ := HA.out j hja
      have H1 := Lib.hid P1
      clear P1
      go_wp2_with fail
      go_loopw [6] (fun i wr' => ∃ m : Nat, m ≤ nb ∧ i = .int .i64 m ∧ Keeps w wr' []) (fun i _ => nb - (intOf i).toNat)
      case atStart => exact ⟨0, by omega, rfl, HM.out⟩
      case round =>
        obtain ⟨m, hm, rfl, hkp⟩ := hrel
        clear HM
        have HM := Lib.hid hkp
        clear hkp
        by_cases hmb : m < nb
        · obtain ⟨b2, o2, q, rfl, P2⟩ := HB.out m hmb
          obtain ⟨s, s2, X, Y, ea, eb, c, hp⟩ := PPair.of H1.out P2 HX.out
          clear P2
          obtain ⟨k, n, f, _⟩ := p
          obtain ⟨k2, n2, f2, _⟩ := q
          dsimp only at hp
          have H := Lib.hid hp
          obtain ⟨c0, c1, c2, c3⟩ := hp.c1 _ HM.out
          clear hp
          go_wp2_with fail
          refine (H.out.r1 _ HM.out).mono ?_
          rintro e w1 ⟨rfl, hk⟩
          replace HM := Lib.hid (HM.out.trans hk (by simp))
          clear hk c0 c1 c2 c3
          obtain ⟨c0, c1, c2, c3⟩ := H.out.c2 _ HM.out
          go_wp2_with fail
          refine (H.out.r2 _ HM.out).mono ?_
          rintro e w2 ⟨rfl, hk⟩
          replace HM := Lib.hid (HM.out.trans hk (by simp))
          clear hk c0 c1 c2 c3
          by_cases h1 : ea = 0
          · by_cases h2 : eb = 0
            · subst h1 h2
              go_wp2_with fail
              obtain ⟨N, hN⟩ : ∃ N : Nat, N = min X.length Y.length := ⟨_, rfl⟩
              rw [show min (X.length : Int) (Y.length : Int) = (N : Int) by omega]
              have EQ := Lib.hid (H.out.eq rfl rfl N hN)
              have k1 : (N : Int) ≤ X.length := by omega
              have k2 : (N : Int) ≤ Y.length := by omega
              have k3 : (0 : Int) ≤ (N : Int) := by omega
              have k4 : IntKind.i64.wrap ((j : Int) + 1) = (j : Int) + 1 := IntWalk.i64_in _ (by omega)
              have k5 : IntKind.i64.wrap ((m : Int) + 1) = (m : Int) + 1 := IntWalk.i64_in _ (by omega)
              have k6 : (j : Int) + 1 ≤ ca := by omega
              have k7 : (m : Int) + 1 ≤ cb := by omega
              have k8 : (0 : Int) ≤ (j : Int) := by omega
              have k9 : (0 : Int) ≤ (m : Int) := by omega
              have k10 : (j : Int) ≤ (j : Int) + 1 := by omega
              have k11 : (m : Int) ≤ (m : Int) + 1 := by omega
              have k12 : ¬ ca = j := by omega
              have k13 : ¬ cb = m := by omega
              clear hN
              have e1 : ((⟨X.toArray⟩ : ByteArray).extract 0 N).toList = X.take N := by rw [Lib.toList_data]; simp
              have e2 : ((⟨Y.toArray⟩ : ByteArray).extract 0 N).toList = Y.take N := by rw [Lib.toList_data]; simp
              obtain ⟨Q, hQ⟩ : ∃ Q, (c == 0) = Q := ⟨_, rfl⟩
              have e3 := EQ.out
              rw [hQ] at e3
              clear EQ
              refine wp_region_keeps _ (by kernel_rfl) rfl (by kernel_rfl) ?_
              apply loose_is
              · intro W vals hW hkn
                clear hkn
                refine ⟨?_⟩
                simp only [fill]
                go_simp
                first | exact ⟨Keeps.refl _ _, rfl⟩ | exact ⟨Keeps.alloc _ _, rfl⟩
              simp only [addEnt]
              apply loose_is
              · intro W vals hW hkn
                clear hkn
                refine ⟨?_⟩
                simp only [fill]
                go_simp
                first | exact ⟨Keeps.refl _ _, rfl⟩ | exact ⟨Keeps.alloc _ _, rfl⟩
              simp only [addEnt]
              apply loose_is
              · intro W vals hW hkn
                clear hkn
                refine ⟨?_⟩
                simp only [fill]
                go_simp
                first | exact ⟨Keeps.refl _ _, rfl⟩ | exact ⟨Keeps.alloc _ _, rfl⟩
              simp only [addEnt]
              apply loose_is
              · intro W vals hW hkn
                clear hkn
                refine ⟨?_⟩
                simp only [fill]
                go_simp
                first | exact ⟨Keeps.refl _ _, rfl⟩ | exact ⟨Keeps.alloc _ _, rfl⟩
              simp only [addEnt]
              apply loose_is
              · intro W vals hW hkn
                clear hkn
                refine ⟨?_⟩
                simp only [fill]
                go_simp
                first | exact ⟨Keeps.refl _ _, rfl⟩ | exact ⟨Keeps.alloc _ _, rfl⟩
              simp only [addEnt]
              apply loose_is
              · intro W vals hW hkn
                clear hkn
                refine ⟨?_⟩
                simp only [fill]
                go_simp
                first | exact ⟨Keeps.refl _ _, rfl⟩ | exact ⟨Keeps.alloc _ _, rfl⟩
              simp only [addEnt]
              apply loose_is
              · intro W vals hW hkn
                clear hkn
                refine ⟨?_⟩
                simp only [fill]
                go_simp
                first | exact ⟨Keeps.refl _ _, rfl⟩ | exact ⟨Keeps.alloc _ _, rfl⟩
              simp only [addEnt]
              apply loose_is
              · intro W vals hW hkn
                clear hkn
                refine ⟨?_⟩
                simp only [fill]
                go_simp
                first | exact ⟨Keeps.refl _ _, rfl⟩ | exact ⟨Keeps.alloc _ _, rfl⟩
              simp only [addEnt]
              apply loose_is
              · intro W vals hW hkn
                clear hkn
                refine ⟨?_⟩
                simp only [fill]
                go_simp
                first | exact ⟨Keeps.refl _ _, rfl⟩ | exact ⟨Keeps.alloc _ _, rfl⟩
              simp only [addEnt]
              apply loose_is
              · intro W vals hW hkn
                clear hkn
                refine ⟨?_⟩
                simp only [fill]
                go_simp
                first | exact ⟨Keeps.refl _ _, rfl⟩ | exact ⟨Keeps.alloc _ _, rfl⟩
              simp only [addEnt]
              apply loose_is
              · intro W vals hW hkn
                clear hkn
                refine ⟨?_⟩
                simp only [fill]
                go_simp
                first | exact ⟨Keeps.refl _ _, rfl⟩ | exact ⟨Keeps.alloc _ _, rfl⟩
              simp only [addEnt]
              apply loose_is
              · intro W vals hW hkn
                clear hkn
                refine ⟨?_⟩
                simp only [fill]
                go_simp
                first | exact ⟨Keeps.refl _ _, rfl⟩ | exact ⟨Keeps.alloc _ _, rfl⟩
              simp only [addEnt]
              apply loose_is
              · intro W vals hW hkn
                clear hkn
                refine ⟨?_⟩
                simp only [fill]
                go_simp
                first | exact ⟨Keeps.refl _ _, rfl⟩ | exact ⟨Keeps.alloc _ _, rfl⟩
              simp only [addEnt]
              apply loose_is
              · intro W vals hW hkn
                clear hkn
                refine ⟨?_⟩
                simp only [fill]
                go_simp
                first | exact ⟨Keeps.refl _ _, rfl⟩ | exact ⟨Keeps.alloc _ _, rfl⟩
              simp only [addEnt]
              apply loose_is
              · intro W vals hW hkn
                clear hkn
                refine ⟨?_⟩
                simp only [fill]
                go_simp
                first | exact ⟨Keeps.refl _ _, rfl⟩ | exact ⟨Keeps.alloc _ _, rfl⟩
              simp only [addEnt]
              apply loose_is
              · intro W vals hW hkn
                clear hkn
                refine ⟨?_⟩
                simp only [fill]
                go_simp
                first | exact ⟨Keeps.refl _ _, rfl⟩ | exact ⟨Keeps.alloc _ _, rfl⟩
              simp only [addEnt]
              apply loose_is
              · intro W vals hW hkn
                clear hkn
                refine ⟨?_⟩
                simp only [fill]
                go_simp
                first | exact ⟨Keeps.refl _ _, rfl⟩ | exact ⟨Keeps.alloc _ _, rfl⟩
              simp only [addEnt]
              apply loose_is
              · intro W vals hW hkn
                clear hkn
                refine ⟨?_⟩
                simp only [fill]
                go_simp
                refine looseUpon_calls ?_
                exact (H.out.cmp W (HM.out.trans hW (by simp)) _ _).mono (by rintro e w3 ⟨rfl, hk3⟩; exact ⟨_, rfl, hk3, rfl⟩)
              simp only [addEnt]
              apply loose_is
              · intro W vals hW hkn
                clear hkn
                refine ⟨?_⟩
                simp only [fill]
                go_simp
                first | exact ⟨Keeps.refl _ _, rfl⟩ | exact ⟨Keeps.alloc _ _, rfl⟩
              simp only [addEnt]
              apply loose_is
              · intro W vals hW hkn
                clear hkn
                refine ⟨?_⟩
                simp only [fill]
                go_simp
                first | exact ⟨Keeps.refl _ _, rfl⟩ | exact ⟨Keeps.alloc _ _, rfl⟩
              simp only [addEnt]
              refine loose_nil (fun W vals hW hkn => ?_)
              simp only [knowsAll] at hkn
              try simp only [and_true] at hkn
              simp only [fill, Act.put, List.setIfInBounds_toArray, List.set_cons_succ, List.set_cons_zero]
              have HM := Lib.hid (HM.out.trans hW (by simp))
              clear hW hkn
              go_wp2_with fail
              exact ⟨⟨m + 1, by omega, by go_num, HM.out⟩, by simp [intOf]; omega⟩
            · have h3 : ((eb : Int) != 0) = true := by simp [h2]
              subst h1
              go_wp2_with fail
              exact ⟨⟨m + 1, by omega, by go_num, HM.out⟩, by simp [intOf]; omega⟩
          · have h3 : ((ea : Int) != 0) = true := by simp [h1]
            go_wp2_with fail
            exact ⟨⟨m + 1, by omega, by go_num, HM.out⟩, by simp [intOf]; omega⟩
        · obtain rfl : m = nb := by omega
          go_wp2_with fail
          exact ⟨⟨j + 1, by omega, by go_num, HM.out⟩, by simp [intOf]; omega⟩
    · obtain rfl : j = na := by omega
      go_wp2_with fail
      refine (HKN.out _ HM.out).mono ?_
      rintro e w' ⟨rfl, hk⟩
      replace HM := Lib.hid (HM.out.trans hk (by simp))
      clear hk
      go_wp2_with fail
      go_ret
      exact ⟨rfl, HM.out⟩
theorem keysPrefix_any (w : World) (A B : Option Addr) (ca cb : Nat) (a b : List KP) (hoa : ∀ p ∈ a, p.Ok) (hob : ∀ p ∈ b, p.Ok) (hA : Lies w w.heap.size A (kFlat a)) (hB : Lies w w.heap.size B (kFlat b)) (hca : a.length ≤ ca) (hcb : b.length ≤ cb) (hM : MaxL w) :
    Calls Tryd.prog 7 #[.slice A a.length ca, .slice B b.length cb] w fun e w' => e = .returned (.bool true) ∧ Keeps w w' [] := by
  cases fa : kFew a
  · exact keysPrefix_big1 w A B ca cb a b hA hM fa
  · cases fb : kFew b
    · exact keysPrefix_big2 w A B ca cb a b hA hB hM fa fb
    · exact keysPrefix_few w A B ca cb a b (few_arg fa hoa hA hM) (few_arg fb hob hB hM) fa fb hca hcb
end Go.Proofs.YtckmlmedhchpaaaDoor
