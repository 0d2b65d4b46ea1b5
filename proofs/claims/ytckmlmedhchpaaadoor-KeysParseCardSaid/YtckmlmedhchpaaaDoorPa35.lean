/- Layer 18: keys' bytes stand as their parts do: the law. -/
import Derived.Test.YtckmlmedhchpaaaDoorPa25
import Derived.Test.YtckmlmedhchpaaaDoorPa31
import Derived.Test.YtckmlmedhchpaaaDoorPa33
import Derived.Test.YtckmlmedhchpaaaDoorPa34

namespace Go.Proofs.YtckmlmedhchpaaaDoor
open Go.RowKit

theorem few_arg {w : World} {A : Option Addr} {l : List KP} (h : kFew l = true) (ho : ∀ p ∈ l, p.Ok) (hL : Lies w w.heap.size A (kFlat l)) (hM : MaxL w) : KArg w A l :=
  ⟨ho, hL, hM, by have := (kFew_spec h).1; omega, fun p hp => by have := (kFew_spec h).2 p hp; omega⟩
theorem gt_less (x y : List UInt8) : (!(Op.bytesLess x y || x == y)) = Op.bytesLess y x := by
  rcases bLt_tri x y with h | h | h
  · rw [h, bLt_asymm x y h]; rfl
  · subst h; rw [bLt_irrefl]; simp
  · rw [h, bLt_asymm y x h]
    have : x ≠ y := fun e => by subst e; rw [bLt_irrefl] at h; cases h
    simp [this]
theorem kErr_ok {l : List KP} (h : kErr l = 0) (ho : ∀ p ∈ l, p.Ok) : ∀ p ∈ l, p.Ok ∧ kMay p = true := fun p hp => ⟨ho p hp, List.all_eq_true.1 (kErr_may (.inl h)) p hp⟩

theorem known_at {w : World} (hM : MaxL w) : ∀ W, Keeps w W [] → Calls Tryd.prog 9 #[] W fun e w' => e = .returned (.bool true) ∧ Keeps W w' [] := fun W hk => known_any W (hM.keeps hk)
theorem few_at {w : World} {A : Option Addr} {l : List KP} (hL : Lies w w.heap.size A (kFlat l)) (c : Nat) {b : Bool} (hb : kFew l = b) : ∀ W, Keeps w W [] → Calls Tryd.prog 18 #[.slice A l.length c] W fun e w' => e = .returned (.bool b) ∧ Keeps W w' [] := fun W hk => by
  subst hb; exact few_any W A c l (hL.keeps hk)
set_option maxRecDepth 100000 in
set_option maxHeartbeats 4000000 in
theorem keysOrder_big1 (w : World) (A B : Option Addr) (ca cb : Nat) (a b : List KP) (hA : Lies w w.heap.size A (kFlat a)) (hM : MaxL w) (hf : kFew a = false) :
    Calls Tryd.prog 8 #[.slice A a.length ca, .slice B b.length cb] w fun e w' => e = .returned (.bool true) ∧ Keeps w w' [] := by
  have HKN := Lib.hid (known_at hM)
  have HF := Lib.hid (few_at hA ca hf)
  clear hM hA hf
  have HM := Lib.hid (Keeps.refl w [])
  go_enter Tryd.func8, Tryd.ntmps8
  go_wp2_with fail
  refine (HF.out _ HM.out).mono ?_
  rintro e w' ⟨rfl, hk⟩
  replace HM := Lib.hid (HM.out.trans hk (by simp))
  clear hk
  go_wp2_with fail
  refine (HKN.out _ HM.out).mono ?_
  rintro e w' ⟨rfl, hk⟩
  replace HM := Lib.hid (HM.out.trans hk (by simp))
  clear hk
  go_wp2_with fail
  go_ret
  exact ⟨rfl, HM.out⟩
set_option maxRecDepth 100000 in
set_option maxHeartbeats 4000000 in
theorem keysOrder_big2 (w : World) (A B : Option Addr) (ca cb : Nat) (a b : List KP) (hA : Lies w w.heap.size A (kFlat a)) (hB : Lies w w.heap.size B (kFlat b)) (hM : MaxL w) (hf : kFew a = true) (hg : kFew b = false) :
    Calls Tryd.prog 8 #[.slice A a.length ca, .slice B b.length cb] w fun e w' => e = .returned (.bool true) ∧ Keeps w w' [] := by
  have HKN := Lib.hid (known_at hM)
  have HF := Lib.hid (few_at hA ca hf)
  have HG := Lib.hid (few_at hB cb hg)
  clear hM hA hB hf hg
  have HM := Lib.hid (Keeps.refl w [])
  go_enter Tryd.func8, Tryd.ntmps8
  go_wp2_with fail
  refine (HF.out _ HM.out).mono ?_
  rintro e w' ⟨rfl, hk⟩
  replace HM := Lib.hid (HM.out.trans hk (by simp))
  clear hk
  go_wp2_with fail
  refine (HG.out _ HM.out).mono ?_
  rintro e w' ⟨rfl, hk⟩
  replace HM := Lib.hid (HM.out.trans hk (by simp))
  clear hk
  go_wp2_with fail
  refine (HKN.out _ HM.out).mono ?_
  rintro e w' ⟨rfl, hk⟩
  replace HM := Lib.hid (HM.out.trans hk (by simp))
  clear hk
  go_wp2_with fail
  go_ret
  exact ⟨rfl, HM.out⟩
/-- What the law reads, as words alone. -/
structure OArg (w : World) (A B : Option Addr) (na ca nb cb : Nat) (c d : Int) (ea eb : Nat) (X Y Z : List UInt8) : Prop where
  kn : ∀ W, Keeps w W [] → Calls Tryd.prog 9 #[] W fun e w' => e = .returned (.bool true) ∧ Keeps W w' []
  fa : ∀ W, Keeps w W [] → Calls Tryd.prog 18 #[.slice A na ca] W fun e w' => e = .returned (.bool true) ∧ Keeps W w' []
  fb : ∀ W, Keeps w W [] → Calls Tryd.prog 18 #[.slice B nb cb] W fun e w' => e = .returned (.bool true) ∧ Keeps W w' []
  cmp : ∀ W, Keeps w W [] → Calls Tryd.prog 22 #[.slice A na ca, .slice B nb cb] W fun e w' => e = .returned (.int .i64 c) ∧ Keeps W w' []
  ref : ∀ W, Keeps w W [] → Calls Tryd.prog 12 #[.slice A na ca, .slice B nb cb] W fun e w' => e = .returned (.int .i64 c) ∧ Keeps W w' []
  ra : ∀ W, Keeps w W [] → Calls Tryd.prog 14 #[.slice A na ca] W fun e w' => e = .returned (.tuple #[.string ⟨X.toArray⟩, .int .i64 (ea : Nat)]) ∧ Keeps W w' []
  rb : ∀ W, Keeps w W [] → Calls Tryd.prog 14 #[.slice B nb cb] W fun e w' => e = .returned (.tuple #[.string ⟨Y.toArray⟩, .int .i64 (eb : Nat)]) ∧ Keeps W w' []
  be : ∀ W, Keeps w W [] → Calls Tryd.prog 21 #[.slice A na ca] W fun e w' => e = .returned (.tuple #[.string ⟨Z.toArray⟩, .int .i64 (ea : Nat)]) ∧ Keeps W w' []
  bg : na ≤ nb → ∀ W, Keeps w W [] → Calls Tryd.prog 12 #[.slice A na ca, .slice B na cb] W fun e w' => e = .returned (.int .i64 d) ∧ Keeps W w' []
  xy : ea = 0 → eb = 0 → Op.bytesLess X Y = decide (c < 0)
  yx : ea = 0 → eb = 0 → Op.bytesLess Y X = decide (0 < c)
  xz : ea = 0 → eb = 0 → Op.bytesLess X Z = true
  yz : ea = 0 → eb = 0 → na ≤ nb → d = 0 → Op.bytesLess Y Z = true
  zy : ea = 0 → eb = 0 → ¬ (na ≤ nb ∧ d = 0) → Op.bytesLess Z Y = decide (c < 0)
theorem OArg.of {w : World} {A B : Option Addr} {a b : List KP} (ca cb : Nat) (ha : KArg w A a) (hb : KArg w B b) (fa : kFew a = true) (fb : kFew b = true) :
    OArg w A B a.length ca b.length cb (kCmp a b) (kCmp a (b.take a.length)) (kErr a) (kErr b) (kKey a) (kKey b) (if kErr a = 0 then kRaw a ++ [255] else []) := by
  have la := ha.len
  have lb := hb.len
  have hord : kErr a = 0 → kErr b = 0 → _ := fun h1 h2 => raw_order a b (kErr_ok h1 ha.ok) (kErr_ok h2 hb.ok)
  refine ⟨known_at ha.max, few_at ha.lies ca fa, few_at hb.lies cb fb, fun W hk => ?_, fun W hk => ?_, fun W hk => (ha.keep hk).raw ca, fun W hk => (hb.keep hk).raw cb, fun W hk => (ha.keep hk).behind ca, fun hle W hk => ?_, ?_, ?_, ?_, ?_, ?_⟩
  · exact kCompare_any W A B ca cb a b ha.ok hb.ok (ha.keep hk).lies (hb.keep hk).lies (by omega) (by omega)
  · exact refCompare_any W A B ca cb a b ha.ok hb.ok (ha.keep hk).lies (hb.keep hk).lies (by omega) (by omega)
  · have hlen : (b.take a.length).length = a.length := by rw [List.length_take]; omega
    have hpre : Lies W W.heap.size B (kFlat (b.take a.length)) := by
      have hL := (hb.keep hk).lies
      have he : kFlat b = kFlat (b.take a.length) ++ kFlat (b.drop a.length) := by
        unfold kFlat
        rw [← List.flatMap_append, List.take_append_drop]
      have := hL.take (kFlat (b.take a.length)).length
      rw [he, List.take_left] at this
      exact this
    have := refCompare_any W A B ca cb a (b.take a.length) ha.ok (fun p hp => hb.ok p (List.mem_of_mem_take hp)) (ha.keep hk).lies hpre (by omega) (by omega)
    rw [hlen] at this
    exact this
  all_goals intro h1 h2; have h := hord h1 h2; unfold kKey
  · rw [if_pos h1, if_pos h2]; exact h.1
  · rw [if_pos h1, if_pos h2]; exact h.2.1
  · rw [if_pos h1, if_pos h1]; exact h.2.2.1
  · intro h3 h4; rw [if_pos h2, if_pos h1]; exact h.2.2.2.1 ⟨h3, h4⟩
  · intro h3; rw [if_pos h2, if_pos h1]; exact h.2.2.2.2 h3
set_option maxRecDepth 100000 in
set_option maxHeartbeats 4000000 in
theorem keysOrder_err (w : World) (A B : Option Addr) (na ca nb cb : Nat) (c d : Int) (ea eb : Nat) (X Y Z : List UInt8) (h : OArg w A B na ca nb cb c d ea eb X Y Z) (he : ¬ (ea = 0 ∧ eb = 0)) :
    Calls Tryd.prog 8 #[.slice A na ca, .slice B nb cb] w fun e w' => e = .returned (.bool true) ∧ Keeps w w' [] := by
  have H := Lib.hid h
  clear h
  by_cases h1 : ea = 0
  · have h2 : ((eb : Int) != 0) = true := by have : eb ≠ 0 := fun h => he ⟨h1, h⟩; simp [this]
    subst h1
    clear he
    rcases Int.lt_trichotomy c 0 with hc | hc | hc
    · skip
      have HM := Lib.hid (Keeps.refl w [])
      go_enter Tryd.func8, Tryd.ntmps8
      go_wp2_with fail
      refine (H.out.fa _ HM.out).mono ?_
      rintro e w' ⟨rfl, hk⟩
      replace HM := Lib.hid (HM.out.trans hk (by simp))
      clear hk
      go_wp2_with fail
      refine (H.out.fb _ HM.out).mono ?_
      rintro e w' ⟨rfl, hk⟩
      replace HM := Lib.hid (HM.out.trans hk (by simp))
      clear hk
      go_wp2_with fail
      refine (H.out.cmp _ HM.out).mono ?_
      rintro e w' ⟨rfl, hk⟩
      replace HM := Lib.hid (HM.out.trans hk (by simp))
      clear hk
      go_wp2_with fail
      refine (H.out.ref _ HM.out).mono ?_
      rintro e w' ⟨rfl, hk⟩
      replace HM := Lib.hid (HM.out.trans hk (by simp))
      clear hk
      go_wp2_with fail
      refine (H.out.ra _ HM.out).mono ?_
      rintro e w' ⟨rfl, hk⟩
      replace HM := Lib.hid (HM.out.trans hk (by simp))
      clear hk
      go_wp2_with fail
      refine (H.out.rb _ HM.out).mono ?_
      rintro e w' ⟨rfl, hk⟩
      replace HM := Lib.hid (HM.out.trans hk (by simp))
      clear hk
      go_wp2_with fail
      refine (H.out.kn _ HM.out).mono ?_
      rintro e w' ⟨rfl, hk⟩
      replace HM := Lib.hid (HM.out.trans hk (by simp))
      clear hk
      go_wp2_with fail
      go_ret
      exact ⟨rfl, HM.out⟩
    · subst hc
      have HM := Lib.hid (Keeps.refl w [])
      go_enter Tryd.func8, Tryd.ntmps8
      go_wp2_with fail
      refine (H.out.fa _ HM.out).mono ?_
      rintro e w' ⟨rfl, hk⟩
      replace HM := Lib.hid (HM.out.trans hk (by simp))
      clear hk
      go_wp2_with fail
      refine (H.out.fb _ HM.out).mono ?_
      rintro e w' ⟨rfl, hk⟩
      replace HM := Lib.hid (HM.out.trans hk (by simp))
      clear hk
      go_wp2_with fail
      refine (H.out.cmp _ HM.out).mono ?_
      rintro e w' ⟨rfl, hk⟩
      replace HM := Lib.hid (HM.out.trans hk (by simp))
      clear hk
      go_wp2_with fail
      refine (H.out.ref _ HM.out).mono ?_
      rintro e w' ⟨rfl, hk⟩
      replace HM := Lib.hid (HM.out.trans hk (by simp))
      clear hk
      go_wp2_with fail
      refine (H.out.ra _ HM.out).mono ?_
      rintro e w' ⟨rfl, hk⟩
      replace HM := Lib.hid (HM.out.trans hk (by simp))
      clear hk
      go_wp2_with fail
      refine (H.out.rb _ HM.out).mono ?_
      rintro e w' ⟨rfl, hk⟩
      replace HM := Lib.hid (HM.out.trans hk (by simp))
      clear hk
      go_wp2_with fail
      refine (H.out.kn _ HM.out).mono ?_
      rintro e w' ⟨rfl, hk⟩
      replace HM := Lib.hid (HM.out.trans hk (by simp))
      clear hk
      go_wp2_with fail
      go_ret
      exact ⟨rfl, HM.out⟩
    · skip
      have HM := Lib.hid (Keeps.refl w [])
      go_enter Tryd.func8, Tryd.ntmps8
      go_wp2_with fail
      refine (H.out.fa _ HM.out).mono ?_
      rintro e w' ⟨rfl, hk⟩
      replace HM := Lib.hid (HM.out.trans hk (by simp))
      clear hk
      go_wp2_with fail
      refine (H.out.fb _ HM.out).mono ?_
      rintro e w' ⟨rfl, hk⟩
      replace HM := Lib.hid (HM.out.trans hk (by simp))
      clear hk
      go_wp2_with fail
      refine (H.out.cmp _ HM.out).mono ?_
      rintro e w' ⟨rfl, hk⟩
      replace HM := Lib.hid (HM.out.trans hk (by simp))
      clear hk
      go_wp2_with fail
      refine (H.out.ref _ HM.out).mono ?_
      rintro e w' ⟨rfl, hk⟩
      replace HM := Lib.hid (HM.out.trans hk (by simp))
      clear hk
      go_wp2_with fail
      refine (H.out.ra _ HM.out).mono ?_
      rintro e w' ⟨rfl, hk⟩
      replace HM := Lib.hid (HM.out.trans hk (by simp))
      clear hk
      go_wp2_with fail
      refine (H.out.rb _ HM.out).mono ?_
      rintro e w' ⟨rfl, hk⟩
      replace HM := Lib.hid (HM.out.trans hk (by simp))
      clear hk
      go_wp2_with fail
      refine (H.out.kn _ HM.out).mono ?_
      rintro e w' ⟨rfl, hk⟩
      replace HM := Lib.hid (HM.out.trans hk (by simp))
      clear hk
      go_wp2_with fail
      go_ret
      exact ⟨rfl, HM.out⟩
  · have h2 : ((ea : Int) != 0) = true := by simp [h1]
    clear he h1
    rcases Int.lt_trichotomy c 0 with hc | hc | hc
    · skip
      have HM := Lib.hid (Keeps.refl w [])
      go_enter Tryd.func8, Tryd.ntmps8
      go_wp2_with fail
      refine (H.out.fa _ HM.out).mono ?_
      rintro e w' ⟨rfl, hk⟩
      replace HM := Lib.hid (HM.out.trans hk (by simp))
      clear hk
      go_wp2_with fail
      refine (H.out.fb _ HM.out).mono ?_
      rintro e w' ⟨rfl, hk⟩
      replace HM := Lib.hid (HM.out.trans hk (by simp))
      clear hk
      go_wp2_with fail
      refine (H.out.cmp _ HM.out).mono ?_
      rintro e w' ⟨rfl, hk⟩
      replace HM := Lib.hid (HM.out.trans hk (by simp))
      clear hk
      go_wp2_with fail
      refine (H.out.ref _ HM.out).mono ?_
      rintro e w' ⟨rfl, hk⟩
      replace HM := Lib.hid (HM.out.trans hk (by simp))
      clear hk
      go_wp2_with fail
      refine (H.out.ra _ HM.out).mono ?_
      rintro e w' ⟨rfl, hk⟩
      replace HM := Lib.hid (HM.out.trans hk (by simp))
      clear hk
      go_wp2_with fail
      refine (H.out.rb _ HM.out).mono ?_
      rintro e w' ⟨rfl, hk⟩
      replace HM := Lib.hid (HM.out.trans hk (by simp))
      clear hk
      go_wp2_with fail
      refine (H.out.kn _ HM.out).mono ?_
      rintro e w' ⟨rfl, hk⟩
      replace HM := Lib.hid (HM.out.trans hk (by simp))
      clear hk
      go_wp2_with fail
      go_ret
      exact ⟨rfl, HM.out⟩
    · subst hc
      have HM := Lib.hid (Keeps.refl w [])
      go_enter Tryd.func8, Tryd.ntmps8
      go_wp2_with fail
      refine (H.out.fa _ HM.out).mono ?_
      rintro e w' ⟨rfl, hk⟩
      replace HM := Lib.hid (HM.out.trans hk (by simp))
      clear hk
      go_wp2_with fail
      refine (H.out.fb _ HM.out).mono ?_
      rintro e w' ⟨rfl, hk⟩
      replace HM := Lib.hid (HM.out.trans hk (by simp))
      clear hk
      go_wp2_with fail
      refine (H.out.cmp _ HM.out).mono ?_
      rintro e w' ⟨rfl, hk⟩
      replace HM := Lib.hid (HM.out.trans hk (by simp))
      clear hk
      go_wp2_with fail
      refine (H.out.ref _ HM.out).mono ?_
      rintro e w' ⟨rfl, hk⟩
      replace HM := Lib.hid (HM.out.trans hk (by simp))
      clear hk
      go_wp2_with fail
      refine (H.out.ra _ HM.out).mono ?_
      rintro e w' ⟨rfl, hk⟩
      replace HM := Lib.hid (HM.out.trans hk (by simp))
      clear hk
      go_wp2_with fail
      refine (H.out.rb _ HM.out).mono ?_
      rintro e w' ⟨rfl, hk⟩
      replace HM := Lib.hid (HM.out.trans hk (by simp))
      clear hk
      go_wp2_with fail
      refine (H.out.kn _ HM.out).mono ?_
      rintro e w' ⟨rfl, hk⟩
      replace HM := Lib.hid (HM.out.trans hk (by simp))
      clear hk
      go_wp2_with fail
      go_ret
      exact ⟨rfl, HM.out⟩
    · skip
      have HM := Lib.hid (Keeps.refl w [])
      go_enter Tryd.func8, Tryd.ntmps8
      go_wp2_with fail
      refine (H.out.fa _ HM.out).mono ?_
      rintro e w' ⟨rfl, hk⟩
      replace HM := Lib.hid (HM.out.trans hk (by simp))
      clear hk
      go_wp2_with fail
      refine (H.out.fb _ HM.out).mono ?_
      rintro e w' ⟨rfl, hk⟩
      replace HM := Lib.hid (HM.out.trans hk (by simp))
      clear hk
      go_wp2_with fail
      refine (H.out.cmp _ HM.out).mono ?_
      rintro e w' ⟨rfl, hk⟩
      replace HM := Lib.hid (HM.out.trans hk (by simp))
      clear hk
      go_wp2_with fail
      refine (H.out.ref _ HM.out).mono ?_
      rintro e w' ⟨rfl, hk⟩
      replace HM := Lib.hid (HM.out.trans hk (by simp))
      clear hk
      go_wp2_with fail
      refine (H.out.ra _ HM.out).mono ?_
      rintro e w' ⟨rfl, hk⟩
      replace HM := Lib.hid (HM.out.trans hk (by simp))
      clear hk
      go_wp2_with fail
      refine (H.out.rb _ HM.out).mono ?_
      rintro e w' ⟨rfl, hk⟩
      replace HM := Lib.hid (HM.out.trans hk (by simp))
      clear hk
      go_wp2_with fail
      refine (H.out.kn _ HM.out).mono ?_
      rintro e w' ⟨rfl, hk⟩
      replace HM := Lib.hid (HM.out.trans hk (by simp))
      clear hk
      go_wp2_with fail
      go_ret
      exact ⟨rfl, HM.out⟩
theorem lt_facts {X Y : List UInt8} {c : Int} (xy : Op.bytesLess X Y = decide (c < 0)) (yx : Op.bytesLess Y X = decide (0 < c)) : (c < 0 → Op.bytesLess X Y = true ∧ (X == Y) = false) ∧ (c = 0 → Op.bytesLess X Y = false ∧ (X == Y) = true) ∧ (0 < c → Op.bytesLess X Y = false ∧ (X == Y) = false) := by
  have ne : ∀ {x y : List UInt8}, Op.bytesLess x y = true → (x == y) = false := by
    intro x y h
    rw [beq_eq_false_iff_ne]
    rintro rfl
    rw [bLt_irrefl] at h
    cases h
  refine ⟨fun h => ?_, fun h => ?_, fun h => ?_⟩
  · rw [show decide (c < 0) = true by simpa using h] at xy
    exact ⟨xy, ne xy⟩
  · subst h
    refine ⟨xy, ?_⟩
    rcases bLt_tri X Y with h | h | h
    · rw [h] at xy; cases xy
    · simpa using h
    · rw [h] at yx; cases yx
  · rw [show decide (c < 0) = false by simp; omega] at xy
    rw [show decide (0 < c) = true by simpa using h] at yx
    refine ⟨xy, ?_⟩
    have := ne yx
    rw [beq_eq_false_iff_ne] at this ⊢
    exact Ne.symm this
theorem gt_facts {Y Z : List UInt8} {b : Bool} (zy : Op.bytesLess Z Y = b) : ∃ p q : Bool, Op.bytesLess Y Z = p ∧ (Y == Z) = q ∧ (p || q) = !b := by
  refine ⟨_, _, rfl, rfl, ?_⟩
  have := gt_less Y Z
  rw [zy] at this
  rw [← this, Bool.not_not]
set_option maxRecDepth 100000 in
set_option maxHeartbeats 8000000 in
theorem keysOrder_ii (w : World) (A B : Option Addr) (na ca nb cb : Nat) (c : Int) (X Y Z : List UInt8) (h : OArg w A B na ca nb cb c 0 0 0 X Y Z) (hnb : nb ≤ 10) (hcb : nb ≤ cb) (hle : na ≤ nb) :
    Calls Tryd.prog 8 #[.slice A na ca, .slice B nb cb] w fun e w' => e = .returned (.bool true) ∧ Keeps w w' [] := by
  have H := Lib.hid h
  have tX := strV_toList X
  have tY := strV_toList Y
  have tZ := strV_toList Z
  have s3 := h.xz rfl rfl
  have LF := Lib.hid (lt_facts (h.xy rfl rfl) (h.yx rfl rfl))
  have s4 := h.yz rfl rfl hle rfl
  have HB := Lib.hid (h.bg hle)
  clear h
  have k1 : (na : Int) ≤ nb := by omega
  have k2 : (na : Int) ≤ cb := by omega
  have k3 : (nb : Int) ≤ 10 := by omega
  clear hnb hcb hle
  rcases Int.lt_trichotomy c 0 with hc | hc | hc
  · have s1 := (LF.out.1 hc).1
    have s2 := (LF.out.1 hc).2
    have hc' : ¬ 0 < c := by omega
    have HM := Lib.hid (Keeps.refl w [])
    go_enter Tryd.func8, Tryd.ntmps8
    go_wp2_with fail
    refine (H.out.fa _ HM.out).mono ?_
    rintro e w' ⟨rfl, hk⟩
    replace HM := Lib.hid (HM.out.trans hk (by simp))
    clear hk
    go_wp2_with fail
    refine (H.out.fb _ HM.out).mono ?_
    rintro e w' ⟨rfl, hk⟩
    replace HM := Lib.hid (HM.out.trans hk (by simp))
    clear hk
    go_wp2_with fail
    refine (H.out.cmp _ HM.out).mono ?_
    rintro e w' ⟨rfl, hk⟩
    replace HM := Lib.hid (HM.out.trans hk (by simp))
    clear hk
    go_wp2_with fail
    refine (H.out.ref _ HM.out).mono ?_
    rintro e w' ⟨rfl, hk⟩
    replace HM := Lib.hid (HM.out.trans hk (by simp))
    clear hk
    go_wp2_with fail
    refine (H.out.ra _ HM.out).mono ?_
    rintro e w' ⟨rfl, hk⟩
    replace HM := Lib.hid (HM.out.trans hk (by simp))
    clear hk
    go_wp2_with fail
    refine (H.out.rb _ HM.out).mono ?_
    rintro e w' ⟨rfl, hk⟩
    replace HM := Lib.hid (HM.out.trans hk (by simp))
    clear hk
    go_wp2_with fail
    refine (H.out.be _ HM.out).mono ?_
    rintro e w' ⟨rfl, hk⟩
    replace HM := Lib.hid (HM.out.trans hk (by simp))
    clear hk
    go_wp2_with fail
    refine (HB.out _ HM.out).mono ?_
    rintro e w' ⟨rfl, hk⟩
    replace HM := Lib.hid (HM.out.trans hk (by simp))
    clear hk
    go_wp2_with fail
    refine (H.out.kn _ HM.out).mono ?_
    rintro e w' ⟨rfl, hk⟩
    replace HM := Lib.hid (HM.out.trans hk (by simp))
    clear hk
    go_wp2_with fail
    go_ret
    first | exact ⟨rfl, HM.out⟩ | exact ⟨by show Ending.returned (Value.bool (!decide (c < 0))) = Ending.returned (Value.bool true); rw [decide_eq_false (show ¬ c < 0 by omega)]; rfl, HM.out⟩
  · have s1 := (LF.out.2.1 hc).1
    have s2 := (LF.out.2.1 hc).2
    subst hc
    have HM := Lib.hid (Keeps.refl w [])
    go_enter Tryd.func8, Tryd.ntmps8
    go_wp2_with fail
    refine (H.out.fa _ HM.out).mono ?_
    rintro e w' ⟨rfl, hk⟩
    replace HM := Lib.hid (HM.out.trans hk (by simp))
    clear hk
    go_wp2_with fail
    refine (H.out.fb _ HM.out).mono ?_
    rintro e w' ⟨rfl, hk⟩
    replace HM := Lib.hid (HM.out.trans hk (by simp))
    clear hk
    go_wp2_with fail
    refine (H.out.cmp _ HM.out).mono ?_
    rintro e w' ⟨rfl, hk⟩
    replace HM := Lib.hid (HM.out.trans hk (by simp))
    clear hk
    go_wp2_with fail
    refine (H.out.ref _ HM.out).mono ?_
    rintro e w' ⟨rfl, hk⟩
    replace HM := Lib.hid (HM.out.trans hk (by simp))
    clear hk
    go_wp2_with fail
    refine (H.out.ra _ HM.out).mono ?_
    rintro e w' ⟨rfl, hk⟩
    replace HM := Lib.hid (HM.out.trans hk (by simp))
    clear hk
    go_wp2_with fail
    refine (H.out.rb _ HM.out).mono ?_
    rintro e w' ⟨rfl, hk⟩
    replace HM := Lib.hid (HM.out.trans hk (by simp))
    clear hk
    go_wp2_with fail
    refine (H.out.be _ HM.out).mono ?_
    rintro e w' ⟨rfl, hk⟩
    replace HM := Lib.hid (HM.out.trans hk (by simp))
    clear hk
    go_wp2_with fail
    refine (HB.out _ HM.out).mono ?_
    rintro e w' ⟨rfl, hk⟩
    replace HM := Lib.hid (HM.out.trans hk (by simp))
    clear hk
    go_wp2_with fail
    refine (H.out.kn _ HM.out).mono ?_
    rintro e w' ⟨rfl, hk⟩
    replace HM := Lib.hid (HM.out.trans hk (by simp))
    clear hk
    go_wp2_with fail
    go_ret
    first | exact ⟨rfl, HM.out⟩ | exact ⟨by show Ending.returned (Value.bool (!decide (c < 0))) = Ending.returned (Value.bool true); rw [decide_eq_false (show ¬ c < 0 by omega)]; rfl, HM.out⟩
  · have s1 := (LF.out.2.2 hc).1
    have s2 := (LF.out.2.2 hc).2
    have hc' : ¬ c < 0 := by omega
    have HM := Lib.hid (Keeps.refl w [])
    go_enter Tryd.func8, Tryd.ntmps8
    go_wp2_with fail
    refine (H.out.fa _ HM.out).mono ?_
    rintro e w' ⟨rfl, hk⟩
    replace HM := Lib.hid (HM.out.trans hk (by simp))
    clear hk
    go_wp2_with fail
    refine (H.out.fb _ HM.out).mono ?_
    rintro e w' ⟨rfl, hk⟩
    replace HM := Lib.hid (HM.out.trans hk (by simp))
    clear hk
    go_wp2_with fail
    refine (H.out.cmp _ HM.out).mono ?_
    rintro e w' ⟨rfl, hk⟩
    replace HM := Lib.hid (HM.out.trans hk (by simp))
    clear hk
    go_wp2_with fail
    refine (H.out.ref _ HM.out).mono ?_
    rintro e w' ⟨rfl, hk⟩
    replace HM := Lib.hid (HM.out.trans hk (by simp))
    clear hk
    go_wp2_with fail
    refine (H.out.ra _ HM.out).mono ?_
    rintro e w' ⟨rfl, hk⟩
    replace HM := Lib.hid (HM.out.trans hk (by simp))
    clear hk
    go_wp2_with fail
    refine (H.out.rb _ HM.out).mono ?_
    rintro e w' ⟨rfl, hk⟩
    replace HM := Lib.hid (HM.out.trans hk (by simp))
    clear hk
    go_wp2_with fail
    refine (H.out.be _ HM.out).mono ?_
    rintro e w' ⟨rfl, hk⟩
    replace HM := Lib.hid (HM.out.trans hk (by simp))
    clear hk
    go_wp2_with fail
    refine (HB.out _ HM.out).mono ?_
    rintro e w' ⟨rfl, hk⟩
    replace HM := Lib.hid (HM.out.trans hk (by simp))
    clear hk
    go_wp2_with fail
    refine (H.out.kn _ HM.out).mono ?_
    rintro e w' ⟨rfl, hk⟩
    replace HM := Lib.hid (HM.out.trans hk (by simp))
    clear hk
    go_wp2_with fail
    go_ret
    first | exact ⟨rfl, HM.out⟩ | exact ⟨by show Ending.returned (Value.bool (!decide (c < 0))) = Ending.returned (Value.bool true); rw [decide_eq_false (show ¬ c < 0 by omega)]; rfl, HM.out⟩
set_option maxRecDepth 100000 in
set_option maxHeartbeats 8000000 in
theorem keysOrder_iii (w : World) (A B : Option Addr) (na ca nb cb : Nat) (c d : Int) (X Y Z : List UInt8) (h : OArg w A B na ca nb cb c d 0 0 X Y Z) (hnb : nb ≤ 10) (hcb : nb ≤ cb) (hle : na ≤ nb) (hd : d ≠ 0) :
    Calls Tryd.prog 8 #[.slice A na ca, .slice B nb cb] w fun e w' => e = .returned (.bool true) ∧ Keeps w w' [] := by
  have H := Lib.hid h
  have tX := strV_toList X
  have tY := strV_toList Y
  have tZ := strV_toList Z
  have s3 := h.xz rfl rfl
  have LF := Lib.hid (lt_facts (h.xy rfl rfl) (h.yx rfl rfl))
  have HZ := Lib.hid (h.zy rfl rfl (fun g => hd g.2))
  have HB := Lib.hid (h.bg hle)
  clear h
  have k0 : (d == 0) = false := by simpa using hd
  have k1 : (na : Int) ≤ nb := by omega
  have k2 : (na : Int) ≤ cb := by omega
  have k3 : (nb : Int) ≤ 10 := by omega
  clear hnb hcb hle hd
  obtain ⟨P, Q, hP, hQ, hPQ⟩ := gt_facts HZ.out
  rcases Int.lt_trichotomy c 0 with hc | hc | hc
  · have s1 := (LF.out.1 hc).1
    have s2 := (LF.out.1 hc).2
    have hc' : ¬ 0 < c := by omega
    rw [decide_eq_true hc] at hPQ
    cases P <;> cases Q
    · first | exact absurd hPQ (by decide) | skip
      all_goals
        clear hPQ
        have HM := Lib.hid (Keeps.refl w [])
        go_enter Tryd.func8, Tryd.ntmps8
        go_wp2_with fail
        refine (H.out.fa _ HM.out).mono ?_
        rintro e w' ⟨rfl, hk⟩
        replace HM := Lib.hid (HM.out.trans hk (by simp))
        clear hk
        go_wp2_with fail
        refine (H.out.fb _ HM.out).mono ?_
        rintro e w' ⟨rfl, hk⟩
        replace HM := Lib.hid (HM.out.trans hk (by simp))
        clear hk
        go_wp2_with fail
        refine (H.out.cmp _ HM.out).mono ?_
        rintro e w' ⟨rfl, hk⟩
        replace HM := Lib.hid (HM.out.trans hk (by simp))
        clear hk
        go_wp2_with fail
        refine (H.out.ref _ HM.out).mono ?_
        rintro e w' ⟨rfl, hk⟩
        replace HM := Lib.hid (HM.out.trans hk (by simp))
        clear hk
        go_wp2_with fail
        refine (H.out.ra _ HM.out).mono ?_
        rintro e w' ⟨rfl, hk⟩
        replace HM := Lib.hid (HM.out.trans hk (by simp))
        clear hk
        go_wp2_with fail
        refine (H.out.rb _ HM.out).mono ?_
        rintro e w' ⟨rfl, hk⟩
        replace HM := Lib.hid (HM.out.trans hk (by simp))
        clear hk
        go_wp2_with fail
        refine (H.out.be _ HM.out).mono ?_
        rintro e w' ⟨rfl, hk⟩
        replace HM := Lib.hid (HM.out.trans hk (by simp))
        clear hk
        go_wp2_with fail
        refine (HB.out _ HM.out).mono ?_
        rintro e w' ⟨rfl, hk⟩
        replace HM := Lib.hid (HM.out.trans hk (by simp))
        clear hk
        go_wp2_with fail
        refine (H.out.kn _ HM.out).mono ?_
        rintro e w' ⟨rfl, hk⟩
        replace HM := Lib.hid (HM.out.trans hk (by simp))
        clear hk
        go_wp2_with fail
        go_ret
        first | exact ⟨rfl, HM.out⟩ | exact ⟨by show Ending.returned (Value.bool (!decide (c < 0))) = Ending.returned (Value.bool true); rw [decide_eq_false (show ¬ c < 0 by omega)]; rfl, HM.out⟩
    · first | exact absurd hPQ (by decide) | skip
      all_goals
        clear hPQ
        have HM := Lib.hid (Keeps.refl w [])
        go_enter Tryd.func8, Tryd.ntmps8
        go_wp2_with fail
        refine (H.out.fa _ HM.out).mono ?_
        rintro e w' ⟨rfl, hk⟩
        replace HM := Lib.hid (HM.out.trans hk (by simp))
        clear hk
        go_wp2_with fail
        refine (H.out.fb _ HM.out).mono ?_
        rintro e w' ⟨rfl, hk⟩
        replace HM := Lib.hid (HM.out.trans hk (by simp))
        clear hk
        go_wp2_with fail
        refine (H.out.cmp _ HM.out).mono ?_
        rintro e w' ⟨rfl, hk⟩
        replace HM := Lib.hid (HM.out.trans hk (by simp))
        clear hk
        go_wp2_with fail
        refine (H.out.ref _ HM.out).mono ?_
        rintro e w' ⟨rfl, hk⟩
        replace HM := Lib.hid (HM.out.trans hk (by simp))
        clear hk
        go_wp2_with fail
        refine (H.out.ra _ HM.out).mono ?_
        rintro e w' ⟨rfl, hk⟩
        replace HM := Lib.hid (HM.out.trans hk (by simp))
        clear hk
        go_wp2_with fail
        refine (H.out.rb _ HM.out).mono ?_
        rintro e w' ⟨rfl, hk⟩
        replace HM := Lib.hid (HM.out.trans hk (by simp))
        clear hk
        go_wp2_with fail
        refine (H.out.be _ HM.out).mono ?_
        rintro e w' ⟨rfl, hk⟩
        replace HM := Lib.hid (HM.out.trans hk (by simp))
        clear hk
        go_wp2_with fail
        refine (HB.out _ HM.out).mono ?_
        rintro e w' ⟨rfl, hk⟩
        replace HM := Lib.hid (HM.out.trans hk (by simp))
        clear hk
        go_wp2_with fail
        refine (H.out.kn _ HM.out).mono ?_
        rintro e w' ⟨rfl, hk⟩
        replace HM := Lib.hid (HM.out.trans hk (by simp))
        clear hk
        go_wp2_with fail
        go_ret
        first | exact ⟨rfl, HM.out⟩ | exact ⟨by show Ending.returned (Value.bool (!decide (c < 0))) = Ending.returned (Value.bool true); rw [decide_eq_false (show ¬ c < 0 by omega)]; rfl, HM.out⟩
    · first | exact absurd hPQ (by decide) | skip
      all_goals
        clear hPQ
        have HM := Lib.hid (Keeps.refl w [])
        go_enter Tryd.func8, Tryd.ntmps8
        go_wp2_with fail
        refine (H.out.fa _ HM.out).mono ?_
        rintro e w' ⟨rfl, hk⟩
        replace HM := Lib.hid (HM.out.trans hk (by simp))
        clear hk
        go_wp2_with fail
        refine (H.out.fb _ HM.out).mono ?_
        rintro e w' ⟨rfl, hk⟩
        replace HM := Lib.hid (HM.out.trans hk (by simp))
        clear hk
        go_wp2_with fail
        refine (H.out.cmp _ HM.out).mono ?_
        rintro e w' ⟨rfl, hk⟩
        replace HM := Lib.hid (HM.out.trans hk (by simp))
        clear hk
        go_wp2_with fail
        refine (H.out.ref _ HM.out).mono ?_
        rintro e w' ⟨rfl, hk⟩
        replace HM := Lib.hid (HM.out.trans hk (by simp))
        clear hk
        go_wp2_with fail
        refine (H.out.ra _ HM.out).mono ?_
        rintro e w' ⟨rfl, hk⟩
        replace HM := Lib.hid (HM.out.trans hk (by simp))
        clear hk
        go_wp2_with fail
        refine (H.out.rb _ HM.out).mono ?_
        rintro e w' ⟨rfl, hk⟩
        replace HM := Lib.hid (HM.out.trans hk (by simp))
        clear hk
        go_wp2_with fail
        refine (H.out.be _ HM.out).mono ?_
        rintro e w' ⟨rfl, hk⟩
        replace HM := Lib.hid (HM.out.trans hk (by simp))
        clear hk
        go_wp2_with fail
        refine (HB.out _ HM.out).mono ?_
        rintro e w' ⟨rfl, hk⟩
        replace HM := Lib.hid (HM.out.trans hk (by simp))
        clear hk
        go_wp2_with fail
        refine (H.out.kn _ HM.out).mono ?_
        rintro e w' ⟨rfl, hk⟩
        replace HM := Lib.hid (HM.out.trans hk (by simp))
        clear hk
        go_wp2_with fail
        go_ret
        first | exact ⟨rfl, HM.out⟩ | exact ⟨by show Ending.returned (Value.bool (!decide (c < 0))) = Ending.returned (Value.bool true); rw [decide_eq_false (show ¬ c < 0 by omega)]; rfl, HM.out⟩
    · first | exact absurd hPQ (by decide) | skip
      all_goals
        clear hPQ
        have HM := Lib.hid (Keeps.refl w [])
        go_enter Tryd.func8, Tryd.ntmps8
        go_wp2_with fail
        refine (H.out.fa _ HM.out).mono ?_
        rintro e w' ⟨rfl, hk⟩
        replace HM := Lib.hid (HM.out.trans hk (by simp))
        clear hk
        go_wp2_with fail
        refine (H.out.fb _ HM.out).mono ?_
        rintro e w' ⟨rfl, hk⟩
        replace HM := Lib.hid (HM.out.trans hk (by simp))
        clear hk
        go_wp2_with fail
        refine (H.out.cmp _ HM.out).mono ?_
        rintro e w' ⟨rfl, hk⟩
        replace HM := Lib.hid (HM.out.trans hk (by simp))
        clear hk
        go_wp2_with fail
        refine (H.out.ref _ HM.out).mono ?_
        rintro e w' ⟨rfl, hk⟩
        replace HM := Lib.hid (HM.out.trans hk (by simp))
        clear hk
        go_wp2_with fail
        refine (H.out.ra _ HM.out).mono ?_
        rintro e w' ⟨rfl, hk⟩
        replace HM := Lib.hid (HM.out.trans hk (by simp))
        clear hk
        go_wp2_with fail
        refine (H.out.rb _ HM.out).mono ?_
        rintro e w' ⟨rfl, hk⟩
        replace HM := Lib.hid (HM.out.trans hk (by simp))
        clear hk
        go_wp2_with fail
        refine (H.out.be _ HM.out).mono ?_
        rintro e w' ⟨rfl, hk⟩
        replace HM := Lib.hid (HM.out.trans hk (by simp))
        clear hk
        go_wp2_with fail
        refine (HB.out _ HM.out).mono ?_
        rintro e w' ⟨rfl, hk⟩
        replace HM := Lib.hid (HM.out.trans hk (by simp))
        clear hk
        go_wp2_with fail
        refine (H.out.kn _ HM.out).mono ?_
        rintro e w' ⟨rfl, hk⟩
        replace HM := Lib.hid (HM.out.trans hk (by simp))
        clear hk
        go_wp2_with fail
        go_ret
        first | exact ⟨rfl, HM.out⟩ | exact ⟨by show Ending.returned (Value.bool (!decide (c < 0))) = Ending.returned (Value.bool true); rw [decide_eq_false (show ¬ c < 0 by omega)]; rfl, HM.out⟩
  · have s1 := (LF.out.2.1 hc).1
    have s2 := (LF.out.2.1 hc).2
    have hc' : ¬ c < 0 := by omega
    subst hc
    rw [decide_eq_false hc'] at hPQ
    cases P <;> cases Q
    · first | exact absurd hPQ (by decide) | skip
      all_goals
        clear hPQ
        have HM := Lib.hid (Keeps.refl w [])
        go_enter Tryd.func8, Tryd.ntmps8
        go_wp2_with fail
        refine (H.out.fa _ HM.out).mono ?_
        rintro e w' ⟨rfl, hk⟩
        replace HM := Lib.hid (HM.out.trans hk (by simp))
        clear hk
        go_wp2_with fail
        refine (H.out.fb _ HM.out).mono ?_
        rintro e w' ⟨rfl, hk⟩
        replace HM := Lib.hid (HM.out.trans hk (by simp))
        clear hk
        go_wp2_with fail
        refine (H.out.cmp _ HM.out).mono ?_
        rintro e w' ⟨rfl, hk⟩
        replace HM := Lib.hid (HM.out.trans hk (by simp))
        clear hk
        go_wp2_with fail
        refine (H.out.ref _ HM.out).mono ?_
        rintro e w' ⟨rfl, hk⟩
        replace HM := Lib.hid (HM.out.trans hk (by simp))
        clear hk
        go_wp2_with fail
        refine (H.out.ra _ HM.out).mono ?_
        rintro e w' ⟨rfl, hk⟩
        replace HM := Lib.hid (HM.out.trans hk (by simp))
        clear hk
        go_wp2_with fail
        refine (H.out.rb _ HM.out).mono ?_
        rintro e w' ⟨rfl, hk⟩
        replace HM := Lib.hid (HM.out.trans hk (by simp))
        clear hk
        go_wp2_with fail
        refine (H.out.be _ HM.out).mono ?_
        rintro e w' ⟨rfl, hk⟩
        replace HM := Lib.hid (HM.out.trans hk (by simp))
        clear hk
        go_wp2_with fail
        refine (HB.out _ HM.out).mono ?_
        rintro e w' ⟨rfl, hk⟩
        replace HM := Lib.hid (HM.out.trans hk (by simp))
        clear hk
        go_wp2_with fail
        refine (H.out.kn _ HM.out).mono ?_
        rintro e w' ⟨rfl, hk⟩
        replace HM := Lib.hid (HM.out.trans hk (by simp))
        clear hk
        go_wp2_with fail
        go_ret
        first | exact ⟨rfl, HM.out⟩ | exact ⟨by show Ending.returned (Value.bool (!decide (c < 0))) = Ending.returned (Value.bool true); rw [decide_eq_false (show ¬ c < 0 by omega)]; rfl, HM.out⟩
    · first | exact absurd hPQ (by decide) | skip
      all_goals
        clear hPQ
        have HM := Lib.hid (Keeps.refl w [])
        go_enter Tryd.func8, Tryd.ntmps8
        go_wp2_with fail
        refine (H.out.fa _ HM.out).mono ?_
        rintro e w' ⟨rfl, hk⟩
        replace HM := Lib.hid (HM.out.trans hk (by simp))
        clear hk
        go_wp2_with fail
        refine (H.out.fb _ HM.out).mono ?_
        rintro e w' ⟨rfl, hk⟩
        replace HM := Lib.hid (HM.out.trans hk (by simp))
        clear hk
        go_wp2_with fail
        refine (H.out.cmp _ HM.out).mono ?_
        rintro e w' ⟨rfl, hk⟩
        replace HM := Lib.hid (HM.out.trans hk (by simp))
        clear hk
        go_wp2_with fail
        refine (H.out.ref _ HM.out).mono ?_
        rintro e w' ⟨rfl, hk⟩
        replace HM := Lib.hid (HM.out.trans hk (by simp))
        clear hk
        go_wp2_with fail
        refine (H.out.ra _ HM.out).mono ?_
        rintro e w' ⟨rfl, hk⟩
        replace HM := Lib.hid (HM.out.trans hk (by simp))
        clear hk
        go_wp2_with fail
        refine (H.out.rb _ HM.out).mono ?_
        rintro e w' ⟨rfl, hk⟩
        replace HM := Lib.hid (HM.out.trans hk (by simp))
        clear hk
        go_wp2_with fail
        refine (H.out.be _ HM.out).mono ?_
        rintro e w' ⟨rfl, hk⟩
        replace HM := Lib.hid (HM.out.trans hk (by simp))
        clear hk
        go_wp2_with fail
        refine (HB.out _ HM.out).mono ?_
        rintro e w' ⟨rfl, hk⟩
        replace HM := Lib.hid (HM.out.trans hk (by simp))
        clear hk
        go_wp2_with fail
        refine (H.out.kn _ HM.out).mono ?_
        rintro e w' ⟨rfl, hk⟩
        replace HM := Lib.hid (HM.out.trans hk (by simp))
        clear hk
        go_wp2_with fail
        go_ret
        first | exact ⟨rfl, HM.out⟩ | exact ⟨by show Ending.returned (Value.bool (!decide (c < 0))) = Ending.returned (Value.bool true); rw [decide_eq_false (show ¬ c < 0 by omega)]; rfl, HM.out⟩
    · first | exact absurd hPQ (by decide) | skip
      all_goals
        clear hPQ
        have HM := Lib.hid (Keeps.refl w [])
        go_enter Tryd.func8, Tryd.ntmps8
        go_wp2_with fail
        refine (H.out.fa _ HM.out).mono ?_
        rintro e w' ⟨rfl, hk⟩
        replace HM := Lib.hid (HM.out.trans hk (by simp))
        clear hk
        go_wp2_with fail
        refine (H.out.fb _ HM.out).mono ?_
        rintro e w' ⟨rfl, hk⟩
        replace HM := Lib.hid (HM.out.trans hk (by simp))
        clear hk
        go_wp2_with fail
        refine (H.out.cmp _ HM.out).mono ?_
        rintro e w' ⟨rfl, hk⟩
        replace HM := Lib.hid (HM.out.trans hk (by simp))
        clear hk
        go_wp2_with fail
        refine (H.out.ref _ HM.out).mono ?_
        rintro e w' ⟨rfl, hk⟩
        replace HM := Lib.hid (HM.out.trans hk (by simp))
        clear hk
        go_wp2_with fail
        refine (H.out.ra _ HM.out).mono ?_
        rintro e w' ⟨rfl, hk⟩
        replace HM := Lib.hid (HM.out.trans hk (by simp))
        clear hk
        go_wp2_with fail
        refine (H.out.rb _ HM.out).mono ?_
        rintro e w' ⟨rfl, hk⟩
        replace HM := Lib.hid (HM.out.trans hk (by simp))
        clear hk
        go_wp2_with fail
        refine (H.out.be _ HM.out).mono ?_
        rintro e w' ⟨rfl, hk⟩
        replace HM := Lib.hid (HM.out.trans hk (by simp))
        clear hk
        go_wp2_with fail
        refine (HB.out _ HM.out).mono ?_
        rintro e w' ⟨rfl, hk⟩
        replace HM := Lib.hid (HM.out.trans hk (by simp))
        clear hk
        go_wp2_with fail
        refine (H.out.kn _ HM.out).mono ?_
        rintro e w' ⟨rfl, hk⟩
        replace HM := Lib.hid (HM.out.trans hk (by simp))
        clear hk
        go_wp2_with fail
        go_ret
        first | exact ⟨rfl, HM.out⟩ | exact ⟨by show Ending.returned (Value.bool (!decide (c < 0))) = Ending.returned (Value.bool true); rw [decide_eq_false (show ¬ c < 0 by omega)]; rfl, HM.out⟩
    · first | exact absurd hPQ (by decide) | skip
      all_goals
        clear hPQ
        have HM := Lib.hid (Keeps.refl w [])
        go_enter Tryd.func8, Tryd.ntmps8
        go_wp2_with fail
        refine (H.out.fa _ HM.out).mono ?_
        rintro e w' ⟨rfl, hk⟩
        replace HM := Lib.hid (HM.out.trans hk (by simp))
        clear hk
        go_wp2_with fail
        refine (H.out.fb _ HM.out).mono ?_
        rintro e w' ⟨rfl, hk⟩
        replace HM := Lib.hid (HM.out.trans hk (by simp))
        clear hk
        go_wp2_with fail
        refine (H.out.cmp _ HM.out).mono ?_
        rintro e w' ⟨rfl, hk⟩
        replace HM := Lib.hid (HM.out.trans hk (by simp))
        clear hk
        go_wp2_with fail
        refine (H.out.ref _ HM.out).mono ?_
        rintro e w' ⟨rfl, hk⟩
        replace HM := Lib.hid (HM.out.trans hk (by simp))
        clear hk
        go_wp2_with fail
        refine (H.out.ra _ HM.out).mono ?_
        rintro e w' ⟨rfl, hk⟩
        replace HM := Lib.hid (HM.out.trans hk (by simp))
        clear hk
        go_wp2_with fail
        refine (H.out.rb _ HM.out).mono ?_
        rintro e w' ⟨rfl, hk⟩
        replace HM := Lib.hid (HM.out.trans hk (by simp))
        clear hk
        go_wp2_with fail
        refine (H.out.be _ HM.out).mono ?_
        rintro e w' ⟨rfl, hk⟩
        replace HM := Lib.hid (HM.out.trans hk (by simp))
        clear hk
        go_wp2_with fail
        refine (HB.out _ HM.out).mono ?_
        rintro e w' ⟨rfl, hk⟩
        replace HM := Lib.hid (HM.out.trans hk (by simp))
        clear hk
        go_wp2_with fail
        refine (H.out.kn _ HM.out).mono ?_
        rintro e w' ⟨rfl, hk⟩
        replace HM := Lib.hid (HM.out.trans hk (by simp))
        clear hk
        go_wp2_with fail
        go_ret
        first | exact ⟨rfl, HM.out⟩ | exact ⟨by show Ending.returned (Value.bool (!decide (c < 0))) = Ending.returned (Value.bool true); rw [decide_eq_false (show ¬ c < 0 by omega)]; rfl, HM.out⟩
  · have s1 := (LF.out.2.2 hc).1
    have s2 := (LF.out.2.2 hc).2
    have hc' : ¬ c < 0 := by omega
    rw [decide_eq_false hc'] at hPQ
    cases P <;> cases Q
    · first | exact absurd hPQ (by decide) | skip
      all_goals
        clear hPQ
        have HM := Lib.hid (Keeps.refl w [])
        go_enter Tryd.func8, Tryd.ntmps8
        go_wp2_with fail
        refine (H.out.fa _ HM.out).mono ?_
        rintro e w' ⟨rfl, hk⟩
        replace HM := Lib.hid (HM.out.trans hk (by simp))
        clear hk
        go_wp2_with fail
        refine (H.out.fb _ HM.out).mono ?_
        rintro e w' ⟨rfl, hk⟩
        replace HM := Lib.hid (HM.out.trans hk (by simp))
        clear hk
        go_wp2_with fail
        refine (H.out.cmp _ HM.out).mono ?_
        rintro e w' ⟨rfl, hk⟩
        replace HM := Lib.hid (HM.out.trans hk (by simp))
        clear hk
        go_wp2_with fail
        refine (H.out.ref _ HM.out).mono ?_
        rintro e w' ⟨rfl, hk⟩
        replace HM := Lib.hid (HM.out.trans hk (by simp))
        clear hk
        go_wp2_with fail
        refine (H.out.ra _ HM.out).mono ?_
        rintro e w' ⟨rfl, hk⟩
        replace HM := Lib.hid (HM.out.trans hk (by simp))
        clear hk
        go_wp2_with fail
        refine (H.out.rb _ HM.out).mono ?_
        rintro e w' ⟨rfl, hk⟩
        replace HM := Lib.hid (HM.out.trans hk (by simp))
        clear hk
        go_wp2_with fail
        refine (H.out.be _ HM.out).mono ?_
        rintro e w' ⟨rfl, hk⟩
        replace HM := Lib.hid (HM.out.trans hk (by simp))
        clear hk
        go_wp2_with fail
        refine (HB.out _ HM.out).mono ?_
        rintro e w' ⟨rfl, hk⟩
        replace HM := Lib.hid (HM.out.trans hk (by simp))
        clear hk
        go_wp2_with fail
        refine (H.out.kn _ HM.out).mono ?_
        rintro e w' ⟨rfl, hk⟩
        replace HM := Lib.hid (HM.out.trans hk (by simp))
        clear hk
        go_wp2_with fail
        go_ret
        first | exact ⟨rfl, HM.out⟩ | exact ⟨by show Ending.returned (Value.bool (!decide (c < 0))) = Ending.returned (Value.bool true); rw [decide_eq_false (show ¬ c < 0 by omega)]; rfl, HM.out⟩
    · first | exact absurd hPQ (by decide) | skip
      all_goals
        clear hPQ
        have HM := Lib.hid (Keeps.refl w [])
        go_enter Tryd.func8, Tryd.ntmps8
        go_wp2_with fail
        refine (H.out.fa _ HM.out).mono ?_
        rintro e w' ⟨rfl, hk⟩
        replace HM := Lib.hid (HM.out.trans hk (by simp))
        clear hk
        go_wp2_with fail
        refine (H.out.fb _ HM.out).mono ?_
        rintro e w' ⟨rfl, hk⟩
        replace HM := Lib.hid (HM.out.trans hk (by simp))
        clear hk
        go_wp2_with fail
        refine (H.out.cmp _ HM.out).mono ?_
        rintro e w' ⟨rfl, hk⟩
        replace HM := Lib.hid (HM.out.trans hk (by simp))
        clear hk
        go_wp2_with fail
        refine (H.out.ref _ HM.out).mono ?_
        rintro e w' ⟨rfl, hk⟩
        replace HM := Lib.hid (HM.out.trans hk (by simp))
        clear hk
        go_wp2_with fail
        refine (H.out.ra _ HM.out).mono ?_
        rintro e w' ⟨rfl, hk⟩
        replace HM := Lib.hid (HM.out.trans hk (by simp))
        clear hk
        go_wp2_with fail
        refine (H.out.rb _ HM.out).mono ?_
        rintro e w' ⟨rfl, hk⟩
        replace HM := Lib.hid (HM.out.trans hk (by simp))
        clear hk
        go_wp2_with fail
        refine (H.out.be _ HM.out).mono ?_
        rintro e w' ⟨rfl, hk⟩
        replace HM := Lib.hid (HM.out.trans hk (by simp))
        clear hk
        go_wp2_with fail
        refine (HB.out _ HM.out).mono ?_
        rintro e w' ⟨rfl, hk⟩
        replace HM := Lib.hid (HM.out.trans hk (by simp))
        clear hk
        go_wp2_with fail
        refine (H.out.kn _ HM.out).mono ?_
        rintro e w' ⟨rfl, hk⟩
        replace HM := Lib.hid (HM.out.trans hk (by simp))
        clear hk
        go_wp2_with fail
        go_ret
        first | exact ⟨rfl, HM.out⟩ | exact ⟨by show Ending.returned (Value.bool (!decide (c < 0))) = Ending.returned (Value.bool true); rw [decide_eq_false (show ¬ c < 0 by omega)]; rfl, HM.out⟩
    · first | exact absurd hPQ (by decide) | skip
      all_goals
        clear hPQ
        have HM := Lib.hid (Keeps.refl w [])
        go_enter Tryd.func8, Tryd.ntmps8
        go_wp2_with fail
        refine (H.out.fa _ HM.out).mono ?_
        rintro e w' ⟨rfl, hk⟩
        replace HM := Lib.hid (HM.out.trans hk (by simp))
        clear hk
        go_wp2_with fail
        refine (H.out.fb _ HM.out).mono ?_
        rintro e w' ⟨rfl, hk⟩
        replace HM := Lib.hid (HM.out.trans hk (by simp))
        clear hk
        go_wp2_with fail
        refine (H.out.cmp _ HM.out).mono ?_
        rintro e w' ⟨rfl, hk⟩
        replace HM := Lib.hid (HM.out.trans hk (by simp))
        clear hk
        go_wp2_with fail
        refine (H.out.ref _ HM.out).mono ?_
        rintro e w' ⟨rfl, hk⟩
        replace HM := Lib.hid (HM.out.trans hk (by simp))
        clear hk
        go_wp2_with fail
        refine (H.out.ra _ HM.out).mono ?_
        rintro e w' ⟨rfl, hk⟩
        replace HM := Lib.hid (HM.out.trans hk (by simp))
        clear hk
        go_wp2_with fail
        refine (H.out.rb _ HM.out).mono ?_
        rintro e w' ⟨rfl, hk⟩
        replace HM := Lib.hid (HM.out.trans hk (by simp))
        clear hk
        go_wp2_with fail
        refine (H.out.be _ HM.out).mono ?_
        rintro e w' ⟨rfl, hk⟩
        replace HM := Lib.hid (HM.out.trans hk (by simp))
        clear hk
        go_wp2_with fail
        refine (HB.out _ HM.out).mono ?_
        rintro e w' ⟨rfl, hk⟩
        replace HM := Lib.hid (HM.out.trans hk (by simp))
        clear hk
        go_wp2_with fail
        refine (H.out.kn _ HM.out).mono ?_
        rintro e w' ⟨rfl, hk⟩
        replace HM := Lib.hid (HM.out.trans hk (by simp))
        clear hk
        go_wp2_with fail
        go_ret
        first | exact ⟨rfl, HM.out⟩ | exact ⟨by show Ending.returned (Value.bool (!decide (c < 0))) = Ending.returned (Value.bool true); rw [decide_eq_false (show ¬ c < 0 by omega)]; rfl, HM.out⟩
    · first | exact absurd hPQ (by decide) | skip
      all_goals
        clear hPQ
        have HM := Lib.hid (Keeps.refl w [])
        go_enter Tryd.func8, Tryd.ntmps8
        go_wp2_with fail
        refine (H.out.fa _ HM.out).mono ?_
        rintro e w' ⟨rfl, hk⟩
        replace HM := Lib.hid (HM.out.trans hk (by simp))
        clear hk
        go_wp2_with fail
        refine (H.out.fb _ HM.out).mono ?_
        rintro e w' ⟨rfl, hk⟩
        replace HM := Lib.hid (HM.out.trans hk (by simp))
        clear hk
        go_wp2_with fail
        refine (H.out.cmp _ HM.out).mono ?_
        rintro e w' ⟨rfl, hk⟩
        replace HM := Lib.hid (HM.out.trans hk (by simp))
        clear hk
        go_wp2_with fail
        refine (H.out.ref _ HM.out).mono ?_
        rintro e w' ⟨rfl, hk⟩
        replace HM := Lib.hid (HM.out.trans hk (by simp))
        clear hk
        go_wp2_with fail
        refine (H.out.ra _ HM.out).mono ?_
        rintro e w' ⟨rfl, hk⟩
        replace HM := Lib.hid (HM.out.trans hk (by simp))
        clear hk
        go_wp2_with fail
        refine (H.out.rb _ HM.out).mono ?_
        rintro e w' ⟨rfl, hk⟩
        replace HM := Lib.hid (HM.out.trans hk (by simp))
        clear hk
        go_wp2_with fail
        refine (H.out.be _ HM.out).mono ?_
        rintro e w' ⟨rfl, hk⟩
        replace HM := Lib.hid (HM.out.trans hk (by simp))
        clear hk
        go_wp2_with fail
        refine (HB.out _ HM.out).mono ?_
        rintro e w' ⟨rfl, hk⟩
        replace HM := Lib.hid (HM.out.trans hk (by simp))
        clear hk
        go_wp2_with fail
        refine (H.out.kn _ HM.out).mono ?_
        rintro e w' ⟨rfl, hk⟩
        replace HM := Lib.hid (HM.out.trans hk (by simp))
        clear hk
        go_wp2_with fail
        go_ret
        first | exact ⟨rfl, HM.out⟩ | exact ⟨by show Ending.returned (Value.bool (!decide (c < 0))) = Ending.returned (Value.bool true); rw [decide_eq_false (show ¬ c < 0 by omega)]; rfl, HM.out⟩
set_option maxRecDepth 100000 in
set_option maxHeartbeats 8000000 in
theorem keysOrder_i (w : World) (A B : Option Addr) (na ca nb cb : Nat) (c d : Int) (X Y Z : List UInt8) (h : OArg w A B na ca nb cb c d 0 0 X Y Z) (hle : nb < na) :
    Calls Tryd.prog 8 #[.slice A na ca, .slice B nb cb] w fun e w' => e = .returned (.bool true) ∧ Keeps w w' [] := by
  have H := Lib.hid h
  have tX := strV_toList X
  have tY := strV_toList Y
  have tZ := strV_toList Z
  have s3 := h.xz rfl rfl
  have LF := Lib.hid (lt_facts (h.xy rfl rfl) (h.yx rfl rfl))
  have HZ := Lib.hid (h.zy rfl rfl (fun g => by omega))
  clear h
  have k1 : ¬ ((nb : Int) ≥ na) := by omega
  clear hle
  obtain ⟨P, Q, hP, hQ, hPQ⟩ := gt_facts HZ.out
  rcases Int.lt_trichotomy c 0 with hc | hc | hc
  · have s1 := (LF.out.1 hc).1
    have s2 := (LF.out.1 hc).2
    have hc' : ¬ 0 < c := by omega
    rw [decide_eq_true hc] at hPQ
    cases P <;> cases Q
    · first | exact absurd hPQ (by decide) | skip
      all_goals
        clear hPQ
        have HM := Lib.hid (Keeps.refl w [])
        go_enter Tryd.func8, Tryd.ntmps8
        go_wp2_with fail
        refine (H.out.fa _ HM.out).mono ?_
        rintro e w' ⟨rfl, hk⟩
        replace HM := Lib.hid (HM.out.trans hk (by simp))
        clear hk
        go_wp2_with fail
        refine (H.out.fb _ HM.out).mono ?_
        rintro e w' ⟨rfl, hk⟩
        replace HM := Lib.hid (HM.out.trans hk (by simp))
        clear hk
        go_wp2_with fail
        refine (H.out.cmp _ HM.out).mono ?_
        rintro e w' ⟨rfl, hk⟩
        replace HM := Lib.hid (HM.out.trans hk (by simp))
        clear hk
        go_wp2_with fail
        refine (H.out.ref _ HM.out).mono ?_
        rintro e w' ⟨rfl, hk⟩
        replace HM := Lib.hid (HM.out.trans hk (by simp))
        clear hk
        go_wp2_with fail
        refine (H.out.ra _ HM.out).mono ?_
        rintro e w' ⟨rfl, hk⟩
        replace HM := Lib.hid (HM.out.trans hk (by simp))
        clear hk
        go_wp2_with fail
        refine (H.out.rb _ HM.out).mono ?_
        rintro e w' ⟨rfl, hk⟩
        replace HM := Lib.hid (HM.out.trans hk (by simp))
        clear hk
        go_wp2_with fail
        refine (H.out.be _ HM.out).mono ?_
        rintro e w' ⟨rfl, hk⟩
        replace HM := Lib.hid (HM.out.trans hk (by simp))
        clear hk
        go_wp2_with fail
        refine (H.out.kn _ HM.out).mono ?_
        rintro e w' ⟨rfl, hk⟩
        replace HM := Lib.hid (HM.out.trans hk (by simp))
        clear hk
        go_wp2_with fail
        go_ret
        first | exact ⟨rfl, HM.out⟩ | exact ⟨by show Ending.returned (Value.bool (!decide (c < 0))) = Ending.returned (Value.bool true); rw [decide_eq_false (show ¬ c < 0 by omega)]; rfl, HM.out⟩
    · first | exact absurd hPQ (by decide) | skip
      all_goals
        clear hPQ
        have HM := Lib.hid (Keeps.refl w [])
        go_enter Tryd.func8, Tryd.ntmps8
        go_wp2_with fail
        refine (H.out.fa _ HM.out).mono ?_
        rintro e w' ⟨rfl, hk⟩
        replace HM := Lib.hid (HM.out.trans hk (by simp))
        clear hk
        go_wp2_with fail
        refine (H.out.fb _ HM.out).mono ?_
        rintro e w' ⟨rfl, hk⟩
        replace HM := Lib.hid (HM.out.trans hk (by simp))
        clear hk
        go_wp2_with fail
        refine (H.out.cmp _ HM.out).mono ?_
        rintro e w' ⟨rfl, hk⟩
        replace HM := Lib.hid (HM.out.trans hk (by simp))
        clear hk
        go_wp2_with fail
        refine (H.out.ref _ HM.out).mono ?_
        rintro e w' ⟨rfl, hk⟩
        replace HM := Lib.hid (HM.out.trans hk (by simp))
        clear hk
        go_wp2_with fail
        refine (H.out.ra _ HM.out).mono ?_
        rintro e w' ⟨rfl, hk⟩
        replace HM := Lib.hid (HM.out.trans hk (by simp))
        clear hk
        go_wp2_with fail
        refine (H.out.rb _ HM.out).mono ?_
        rintro e w' ⟨rfl, hk⟩
        replace HM := Lib.hid (HM.out.trans hk (by simp))
        clear hk
        go_wp2_with fail
        refine (H.out.be _ HM.out).mono ?_
        rintro e w' ⟨rfl, hk⟩
        replace HM := Lib.hid (HM.out.trans hk (by simp))
        clear hk
        go_wp2_with fail
        refine (H.out.kn _ HM.out).mono ?_
        rintro e w' ⟨rfl, hk⟩
        replace HM := Lib.hid (HM.out.trans hk (by simp))
        clear hk
        go_wp2_with fail
        go_ret
        first | exact ⟨rfl, HM.out⟩ | exact ⟨by show Ending.returned (Value.bool (!decide (c < 0))) = Ending.returned (Value.bool true); rw [decide_eq_false (show ¬ c < 0 by omega)]; rfl, HM.out⟩
    · first | exact absurd hPQ (by decide) | skip
      all_goals
        clear hPQ
        have HM := Lib.hid (Keeps.refl w [])
        go_enter Tryd.func8, Tryd.ntmps8
        go_wp2_with fail
        refine (H.out.fa _ HM.out).mono ?_
        rintro e w' ⟨rfl, hk⟩
        replace HM := Lib.hid (HM.out.trans hk (by simp))
        clear hk
        go_wp2_with fail
        refine (H.out.fb _ HM.out).mono ?_
        rintro e w' ⟨rfl, hk⟩
        replace HM := Lib.hid (HM.out.trans hk (by simp))
        clear hk
        go_wp2_with fail
        refine (H.out.cmp _ HM.out).mono ?_
        rintro e w' ⟨rfl, hk⟩
        replace HM := Lib.hid (HM.out.trans hk (by simp))
        clear hk
        go_wp2_with fail
        refine (H.out.ref _ HM.out).mono ?_
        rintro e w' ⟨rfl, hk⟩
        replace HM := Lib.hid (HM.out.trans hk (by simp))
        clear hk
        go_wp2_with fail
        refine (H.out.ra _ HM.out).mono ?_
        rintro e w' ⟨rfl, hk⟩
        replace HM := Lib.hid (HM.out.trans hk (by simp))
        clear hk
        go_wp2_with fail
        refine (H.out.rb _ HM.out).mono ?_
        rintro e w' ⟨rfl, hk⟩
        replace HM := Lib.hid (HM.out.trans hk (by simp))
        clear hk
        go_wp2_with fail
        refine (H.out.be _ HM.out).mono ?_
        rintro e w' ⟨rfl, hk⟩
        replace HM := Lib.hid (HM.out.trans hk (by simp))
        clear hk
        go_wp2_with fail
        refine (H.out.kn _ HM.out).mono ?_
        rintro e w' ⟨rfl, hk⟩
        replace HM := Lib.hid (HM.out.trans hk (by simp))
        clear hk
        go_wp2_with fail
        go_ret
        first | exact ⟨rfl, HM.out⟩ | exact ⟨by show Ending.returned (Value.bool (!decide (c < 0))) = Ending.returned (Value.bool true); rw [decide_eq_false (show ¬ c < 0 by omega)]; rfl, HM.out⟩
    · first | exact absurd hPQ (by decide) | skip
      all_goals
        clear hPQ
        have HM := Lib.hid (Keeps.refl w [])
        go_enter Tryd.func8, Tryd.ntmps8
        go_wp2_with fail
        refine (H.out.fa _ HM.out).mono ?_
        rintro e w' ⟨rfl, hk⟩
        replace HM := Lib.hid (HM.out.trans hk (by simp))
        clear hk
        go_wp2_with fail
        refine (H.out.fb _ HM.out).mono ?_
        rintro e w' ⟨rfl, hk⟩
        replace HM := Lib.hid (HM.out.trans hk (by simp))
        clear hk
        go_wp2_with fail
        refine (H.out.cmp _ HM.out).mono ?_
        rintro e w' ⟨rfl, hk⟩
        replace HM := Lib.hid (HM.out.trans hk (by simp))
        clear hk
        go_wp2_with fail
        refine (H.out.ref _ HM.out).mono ?_
        rintro e w' ⟨rfl, hk⟩
        replace HM := Lib.hid (HM.out.trans hk (by simp))
        clear hk
        go_wp2_with fail
        refine (H.out.ra _ HM.out).mono ?_
        rintro e w' ⟨rfl, hk⟩
        replace HM := Lib.hid (HM.out.trans hk (by simp))
        clear hk
        go_wp2_with fail
        refine (H.out.rb _ HM.out).mono ?_
        rintro e w' ⟨rfl, hk⟩
        replace HM := Lib.hid (HM.out.trans hk (by simp))
        clear hk
        go_wp2_with fail
        refine (H.out.be _ HM.out).mono ?_
        rintro e w' ⟨rfl, hk⟩
        replace HM := Lib.hid (HM.out.trans hk (by simp))
        clear hk
        go_wp2_with fail
        refine (H.out.kn _ HM.out).mono ?_
        rintro e w' ⟨rfl, hk⟩
        replace HM := Lib.hid (HM.out.trans hk (by simp))
        clear hk
        go_wp2_with fail
        go_ret
        first | exact ⟨rfl, HM.out⟩ | exact ⟨by show Ending.returned (Value.bool (!decide (c < 0))) = Ending.returned (Value.bool true); rw [decide_eq_false (show ¬ c < 0 by omega)]; rfl, HM.out⟩
  · have s1 := (LF.out.2.1 hc).1
    have s2 := (LF.out.2.1 hc).2
    have hc' : ¬ c < 0 := by omega
    subst hc
    rw [decide_eq_false hc'] at hPQ
    cases P <;> cases Q
    · first | exact absurd hPQ (by decide) | skip
      all_goals
        clear hPQ
        have HM := Lib.hid (Keeps.refl w [])
        go_enter Tryd.func8, Tryd.ntmps8
        go_wp2_with fail
        refine (H.out.fa _ HM.out).mono ?_
        rintro e w' ⟨rfl, hk⟩
        replace HM := Lib.hid (HM.out.trans hk (by simp))
        clear hk
        go_wp2_with fail
        refine (H.out.fb _ HM.out).mono ?_
        rintro e w' ⟨rfl, hk⟩
        replace HM := Lib.hid (HM.out.trans hk (by simp))
        clear hk
        go_wp2_with fail
        refine (H.out.cmp _ HM.out).mono ?_
        rintro e w' ⟨rfl, hk⟩
        replace HM := Lib.hid (HM.out.trans hk (by simp))
        clear hk
        go_wp2_with fail
        refine (H.out.ref _ HM.out).mono ?_
        rintro e w' ⟨rfl, hk⟩
        replace HM := Lib.hid (HM.out.trans hk (by simp))
        clear hk
        go_wp2_with fail
        refine (H.out.ra _ HM.out).mono ?_
        rintro e w' ⟨rfl, hk⟩
        replace HM := Lib.hid (HM.out.trans hk (by simp))
        clear hk
        go_wp2_with fail
        refine (H.out.rb _ HM.out).mono ?_
        rintro e w' ⟨rfl, hk⟩
        replace HM := Lib.hid (HM.out.trans hk (by simp))
        clear hk
        go_wp2_with fail
        refine (H.out.be _ HM.out).mono ?_
        rintro e w' ⟨rfl, hk⟩
        replace HM := Lib.hid (HM.out.trans hk (by simp))
        clear hk
        go_wp2_with fail
        refine (H.out.kn _ HM.out).mono ?_
        rintro e w' ⟨rfl, hk⟩
        replace HM := Lib.hid (HM.out.trans hk (by simp))
        clear hk
        go_wp2_with fail
        go_ret
        first | exact ⟨rfl, HM.out⟩ | exact ⟨by show Ending.returned (Value.bool (!decide (c < 0))) = Ending.returned (Value.bool true); rw [decide_eq_false (show ¬ c < 0 by omega)]; rfl, HM.out⟩
    · first | exact absurd hPQ (by decide) | skip
      all_goals
        clear hPQ
        have HM := Lib.hid (Keeps.refl w [])
        go_enter Tryd.func8, Tryd.ntmps8
        go_wp2_with fail
        refine (H.out.fa _ HM.out).mono ?_
        rintro e w' ⟨rfl, hk⟩
        replace HM := Lib.hid (HM.out.trans hk (by simp))
        clear hk
        go_wp2_with fail
        refine (H.out.fb _ HM.out).mono ?_
        rintro e w' ⟨rfl, hk⟩
        replace HM := Lib.hid (HM.out.trans hk (by simp))
        clear hk
        go_wp2_with fail
        refine (H.out.cmp _ HM.out).mono ?_
        rintro e w' ⟨rfl, hk⟩
        replace HM := Lib.hid (HM.out.trans hk (by simp))
        clear hk
        go_wp2_with fail
        refine (H.out.ref _ HM.out).mono ?_
        rintro e w' ⟨rfl, hk⟩
        replace HM := Lib.hid (HM.out.trans hk (by simp))
        clear hk
        go_wp2_with fail
        refine (H.out.ra _ HM.out).mono ?_
        rintro e w' ⟨rfl, hk⟩
        replace HM := Lib.hid (HM.out.trans hk (by simp))
        clear hk
        go_wp2_with fail
        refine (H.out.rb _ HM.out).mono ?_
        rintro e w' ⟨rfl, hk⟩
        replace HM := Lib.hid (HM.out.trans hk (by simp))
        clear hk
        go_wp2_with fail
        refine (H.out.be _ HM.out).mono ?_
        rintro e w' ⟨rfl, hk⟩
        replace HM := Lib.hid (HM.out.trans hk (by simp))
        clear hk
        go_wp2_with fail
        refine (H.out.kn _ HM.out).mono ?_
        rintro e w' ⟨rfl, hk⟩
        replace HM := Lib.hid (HM.out.trans hk (by simp))
        clear hk
        go_wp2_with fail
        go_ret
        first | exact ⟨rfl, HM.out⟩ | exact ⟨by show Ending.returned (Value.bool (!decide (c < 0))) = Ending.returned (Value.bool true); rw [decide_eq_false (show ¬ c < 0 by omega)]; rfl, HM.out⟩
    · first | exact absurd hPQ (by decide) | skip
      all_goals
        clear hPQ
        have HM := Lib.hid (Keeps.refl w [])
        go_enter Tryd.func8, Tryd.ntmps8
        go_wp2_with fail
        refine (H.out.fa _ HM.out).mono ?_
        rintro e w' ⟨rfl, hk⟩
        replace HM := Lib.hid (HM.out.trans hk (by simp))
        clear hk
        go_wp2_with fail
        refine (H.out.fb _ HM.out).mono ?_
        rintro e w' ⟨rfl, hk⟩
        replace HM := Lib.hid (HM.out.trans hk (by simp))
        clear hk
        go_wp2_with fail
        refine (H.out.cmp _ HM.out).mono ?_
        rintro e w' ⟨rfl, hk⟩
        replace HM := Lib.hid (HM.out.trans hk (by simp))
        clear hk
        go_wp2_with fail
        refine (H.out.ref _ HM.out).mono ?_
        rintro e w' ⟨rfl, hk⟩
        replace HM := Lib.hid (HM.out.trans hk (by simp))
        clear hk
        go_wp2_with fail
        refine (H.out.ra _ HM.out).mono ?_
        rintro e w' ⟨rfl, hk⟩
        replace HM := Lib.hid (HM.out.trans hk (by simp))
        clear hk
        go_wp2_with fail
        refine (H.out.rb _ HM.out).mono ?_
        rintro e w' ⟨rfl, hk⟩
        replace HM := Lib.hid (HM.out.trans hk (by simp))
        clear hk
        go_wp2_with fail
        refine (H.out.be _ HM.out).mono ?_
        rintro e w' ⟨rfl, hk⟩
        replace HM := Lib.hid (HM.out.trans hk (by simp))
        clear hk
        go_wp2_with fail
        refine (H.out.kn _ HM.out).mono ?_
        rintro e w' ⟨rfl, hk⟩
        replace HM := Lib.hid (HM.out.trans hk (by simp))
        clear hk
        go_wp2_with fail
        go_ret
        first | exact ⟨rfl, HM.out⟩ | exact ⟨by show Ending.returned (Value.bool (!decide (c < 0))) = Ending.returned (Value.bool true); rw [decide_eq_false (show ¬ c < 0 by omega)]; rfl, HM.out⟩
    · first | exact absurd hPQ (by decide) | skip
      all_goals
        clear hPQ
        have HM := Lib.hid (Keeps.refl w [])
        go_enter Tryd.func8, Tryd.ntmps8
        go_wp2_with fail
        refine (H.out.fa _ HM.out).mono ?_
        rintro e w' ⟨rfl, hk⟩
        replace HM := Lib.hid (HM.out.trans hk (by simp))
        clear hk
        go_wp2_with fail
        refine (H.out.fb _ HM.out).mono ?_
        rintro e w' ⟨rfl, hk⟩
        replace HM := Lib.hid (HM.out.trans hk (by simp))
        clear hk
        go_wp2_with fail
        refine (H.out.cmp _ HM.out).mono ?_
        rintro e w' ⟨rfl, hk⟩
        replace HM := Lib.hid (HM.out.trans hk (by simp))
        clear hk
        go_wp2_with fail
        refine (H.out.ref _ HM.out).mono ?_
        rintro e w' ⟨rfl, hk⟩
        replace HM := Lib.hid (HM.out.trans hk (by simp))
        clear hk
        go_wp2_with fail
        refine (H.out.ra _ HM.out).mono ?_
        rintro e w' ⟨rfl, hk⟩
        replace HM := Lib.hid (HM.out.trans hk (by simp))
        clear hk
        go_wp2_with fail
        refine (H.out.rb _ HM.out).mono ?_
        rintro e w' ⟨rfl, hk⟩
        replace HM := Lib.hid (HM.out.trans hk (by simp))
        clear hk
        go_wp2_with fail
        refine (H.out.be _ HM.out).mono ?_
        rintro e w' ⟨rfl, hk⟩
        replace HM := Lib.hid (HM.out.trans hk (by simp))
        clear hk
        go_wp2_with fail
        refine (H.out.kn _ HM.out).mono ?_
        rintro e w' ⟨rfl, hk⟩
        replace HM := Lib.hid (HM.out.trans hk (by simp))
        clear hk
        go_wp2_with fail
        go_ret
        first | exact ⟨rfl, HM.out⟩ | exact ⟨by show Ending.returned (Value.bool (!decide (c < 0))) = Ending.returned (Value.bool true); rw [decide_eq_false (show ¬ c < 0 by omega)]; rfl, HM.out⟩
  · have s1 := (LF.out.2.2 hc).1
    have s2 := (LF.out.2.2 hc).2
    have hc' : ¬ c < 0 := by omega
    rw [decide_eq_false hc'] at hPQ
    cases P <;> cases Q
    · first | exact absurd hPQ (by decide) | skip
      all_goals
        clear hPQ
        have HM := Lib.hid (Keeps.refl w [])
        go_enter Tryd.func8, Tryd.ntmps8
        go_wp2_with fail
        refine (H.out.fa _ HM.out).mono ?_
        rintro e w' ⟨rfl, hk⟩
        replace HM := Lib.hid (HM.out.trans hk (by simp))
        clear hk
        go_wp2_with fail
        refine (H.out.fb _ HM.out).mono ?_
        rintro e w' ⟨rfl, hk⟩
        replace HM := Lib.hid (HM.out.trans hk (by simp))
        clear hk
        go_wp2_with fail
        refine (H.out.cmp _ HM.out).mono ?_
        rintro e w' ⟨rfl, hk⟩
        replace HM := Lib.hid (HM.out.trans hk (by simp))
        clear hk
        go_wp2_with fail
        refine (H.out.ref _ HM.out).mono ?_
        rintro e w' ⟨rfl, hk⟩
        replace HM := Lib.hid (HM.out.trans hk (by simp))
        clear hk
        go_wp2_with fail
        refine (H.out.ra _ HM.out).mono ?_
        rintro e w' ⟨rfl, hk⟩
        replace HM := Lib.hid (HM.out.trans hk (by simp))
        clear hk
        go_wp2_with fail
        refine (H.out.rb _ HM.out).mono ?_
        rintro e w' ⟨rfl, hk⟩
        replace HM := Lib.hid (HM.out.trans hk (by simp))
        clear hk
        go_wp2_with fail
        refine (H.out.be _ HM.out).mono ?_
        rintro e w' ⟨rfl, hk⟩
        replace HM := Lib.hid (HM.out.trans hk (by simp))
        clear hk
        go_wp2_with fail
        refine (H.out.kn _ HM.out).mono ?_
        rintro e w' ⟨rfl, hk⟩
        replace HM := Lib.hid (HM.out.trans hk (by simp))
        clear hk
        go_wp2_with fail
        go_ret
        first | exact ⟨rfl, HM.out⟩ | exact ⟨by show Ending.returned (Value.bool (!decide (c < 0))) = Ending.returned (Value.bool true); rw [decide_eq_false (show ¬ c < 0 by omega)]; rfl, HM.out⟩
    · first | exact absurd hPQ (by decide) | skip
      all_goals
        clear hPQ
        have HM := Lib.hid (Keeps.refl w [])
        go_enter Tryd.func8, Tryd.ntmps8
        go_wp2_with fail
        refine (H.out.fa _ HM.out).mono ?_
        rintro e w' ⟨rfl, hk⟩
        replace HM := Lib.hid (HM.out.trans hk (by simp))
        clear hk
        go_wp2_with fail
        refine (H.out.fb _ HM.out).mono ?_
        rintro e w' ⟨rfl, hk⟩
        replace HM := Lib.hid (HM.out.trans hk (by simp))
        clear hk
        go_wp2_with fail
        refine (H.out.cmp _ HM.out).mono ?_
        rintro e w' ⟨rfl, hk⟩
        replace HM := Lib.hid (HM.out.trans hk (by simp))
        clear hk
        go_wp2_with fail
        refine (H.out.ref _ HM.out).mono ?_
        rintro e w' ⟨rfl, hk⟩
        replace HM := Lib.hid (HM.out.trans hk (by simp))
        clear hk
        go_wp2_with fail
        refine (H.out.ra _ HM.out).mono ?_
        rintro e w' ⟨rfl, hk⟩
        replace HM := Lib.hid (HM.out.trans hk (by simp))
        clear hk
        go_wp2_with fail
        refine (H.out.rb _ HM.out).mono ?_
        rintro e w' ⟨rfl, hk⟩
        replace HM := Lib.hid (HM.out.trans hk (by simp))
        clear hk
        go_wp2_with fail
        refine (H.out.be _ HM.out).mono ?_
        rintro e w' ⟨rfl, hk⟩
        replace HM := Lib.hid (HM.out.trans hk (by simp))
        clear hk
        go_wp2_with fail
        refine (H.out.kn _ HM.out).mono ?_
        rintro e w' ⟨rfl, hk⟩
        replace HM := Lib.hid (HM.out.trans hk (by simp))
        clear hk
        go_wp2_with fail
        go_ret
        first | exact ⟨rfl, HM.out⟩ | exact ⟨by show Ending.returned (Value.bool (!decide (c < 0))) = Ending.returned (Value.bool true); rw [decide_eq_false (show ¬ c < 0 by omega)]; rfl, HM.out⟩
    · first | exact absurd hPQ (by decide) | skip
      all_goals
        clear hPQ
        have HM := Lib.hid (Keeps.refl w [])
        go_enter Tryd.func8, Tryd.ntmps8
        go_wp2_with fail
        refine (H.out.fa _ HM.out).mono ?_
        rintro e w' ⟨rfl, hk⟩
        replace HM := Lib.hid (HM.out.trans hk (by simp))
        clear hk
        go_wp2_with fail
        refine (H.out.fb _ HM.out).mono ?_
        rintro e w' ⟨rfl, hk⟩
        replace HM := Lib.hid (HM.out.trans hk (by simp))
        clear hk
        go_wp2_with fail
        refine (H.out.cmp _ HM.out).mono ?_
        rintro e w' ⟨rfl, hk⟩
        replace HM := Lib.hid (HM.out.trans hk (by simp))
        clear hk
        go_wp2_with fail
        refine (H.out.ref _ HM.out).mono ?_
        rintro e w' ⟨rfl, hk⟩
        replace HM := Lib.hid (HM.out.trans hk (by simp))
        clear hk
        go_wp2_with fail
        refine (H.out.ra _ HM.out).mono ?_
        rintro e w' ⟨rfl, hk⟩
        replace HM := Lib.hid (HM.out.trans hk (by simp))
        clear hk
        go_wp2_with fail
        refine (H.out.rb _ HM.out).mono ?_
        rintro e w' ⟨rfl, hk⟩
        replace HM := Lib.hid (HM.out.trans hk (by simp))
        clear hk
        go_wp2_with fail
        refine (H.out.be _ HM.out).mono ?_
        rintro e w' ⟨rfl, hk⟩
        replace HM := Lib.hid (HM.out.trans hk (by simp))
        clear hk
        go_wp2_with fail
        refine (H.out.kn _ HM.out).mono ?_
        rintro e w' ⟨rfl, hk⟩
        replace HM := Lib.hid (HM.out.trans hk (by simp))
        clear hk
        go_wp2_with fail
        go_ret
        first | exact ⟨rfl, HM.out⟩ | exact ⟨by show Ending.returned (Value.bool (!decide (c < 0))) = Ending.returned (Value.bool true); rw [decide_eq_false (show ¬ c < 0 by omega)]; rfl, HM.out⟩
    · first | exact absurd hPQ (by decide) | skip
      all_goals
        clear hPQ
        have HM := Lib.hid (Keeps.refl w [])
        go_enter Tryd.func8, Tryd.ntmps8
        go_wp2_with fail
        refine (H.out.fa _ HM.out).mono ?_
        rintro e w' ⟨rfl, hk⟩
        replace HM := Lib.hid (HM.out.trans hk (by simp))
        clear hk
        go_wp2_with fail
        refine (H.out.fb _ HM.out).mono ?_
        rintro e w' ⟨rfl, hk⟩
        replace HM := Lib.hid (HM.out.trans hk (by simp))
        clear hk
        go_wp2_with fail
        refine (H.out.cmp _ HM.out).mono ?_
        rintro e w' ⟨rfl, hk⟩
        replace HM := Lib.hid (HM.out.trans hk (by simp))
        clear hk
        go_wp2_with fail
        refine (H.out.ref _ HM.out).mono ?_
        rintro e w' ⟨rfl, hk⟩
        replace HM := Lib.hid (HM.out.trans hk (by simp))
        clear hk
        go_wp2_with fail
        refine (H.out.ra _ HM.out).mono ?_
        rintro e w' ⟨rfl, hk⟩
        replace HM := Lib.hid (HM.out.trans hk (by simp))
        clear hk
        go_wp2_with fail
        refine (H.out.rb _ HM.out).mono ?_
        rintro e w' ⟨rfl, hk⟩
        replace HM := Lib.hid (HM.out.trans hk (by simp))
        clear hk
        go_wp2_with fail
        refine (H.out.be _ HM.out).mono ?_
        rintro e w' ⟨rfl, hk⟩
        replace HM := Lib.hid (HM.out.trans hk (by simp))
        clear hk
        go_wp2_with fail
        refine (H.out.kn _ HM.out).mono ?_
        rintro e w' ⟨rfl, hk⟩
        replace HM := Lib.hid (HM.out.trans hk (by simp))
        clear hk
        go_wp2_with fail
        go_ret
        first | exact ⟨rfl, HM.out⟩ | exact ⟨by show Ending.returned (Value.bool (!decide (c < 0))) = Ending.returned (Value.bool true); rw [decide_eq_false (show ¬ c < 0 by omega)]; rfl, HM.out⟩
theorem keysOrder_any (w : World) (A B : Option Addr) (ca cb : Nat) (a b : List KP) (hoa : ∀ p ∈ a, p.Ok) (hob : ∀ p ∈ b, p.Ok) (hA : Lies w w.heap.size A (kFlat a)) (hB : Lies w w.heap.size B (kFlat b)) (hcb : b.length ≤ cb) (hM : MaxL w) :
    Calls Tryd.prog 8 #[.slice A a.length ca, .slice B b.length cb] w fun e w' => e = .returned (.bool true) ∧ Keeps w w' [] := by
  cases fa : kFew a
  · exact keysOrder_big1 w A B ca cb a b hA hM fa
  · cases fb : kFew b
    · exact keysOrder_big2 w A B ca cb a b hA hB hM fa fb
    · have h := OArg.of ca cb (few_arg fa hoa hA hM) (few_arg fb hob hB hM) fa fb
      have l2 := (kFew_spec fb).1
      by_cases he : kErr a = 0 ∧ kErr b = 0
      · rw [he.1, he.2] at h
        by_cases hle : a.length ≤ b.length
        · by_cases hd : kCmp a (b.take a.length) = 0
          · rw [hd] at h
            exact keysOrder_ii w A B _ ca _ cb _ _ _ _ h l2 hcb hle
          · exact keysOrder_iii w A B _ ca _ cb _ _ _ _ _ h l2 hcb hle hd
        · exact keysOrder_i w A B _ ca _ cb _ _ _ _ _ h (by omega)
      · exact keysOrder_err w A B _ ca _ cb _ _ _ _ _ _ _ h he
end Go.Proofs.YtckmlmedhchpaaaDoor
