/- Package keys: Parse. -/
import Derived.Test.YtfglgeoookbppaaGreatDoorPa16
import Derived.Test.YtfglgeoookbppaaGreatDoorPa30

namespace Go.Proofs.YtfglgeoookbppaaGreatDoor
open Go.RowKit

/-- What Parse answers. -/
def KParsed (w : World) (s : List UInt8) (e : Ending) (w' : World) : Prop := Keeps w w' [] ∧
 ((∃ l v, s.length ≤ 48 ∧ kPar s = some l ∧ kErr l = 0 ∧ e = .returned (.tuple #[v, .int .i64 0]) ∧ OwnedP w' w.heap.size v l) ∨
 (¬ (s.length ≤ 48 ∧ ∃ l, kPar s = some l ∧ kErr l = 0) ∧ e = .returned (.tuple #[.slice none 0 0, .int .i64 280])))

abbrev kDefer (b1 b2 : Nat) : Deferred := { target := Target.fn (Fn.func 84) #[.pointer (some ⟨b1, 0, none⟩), .pointer (some ⟨b2, 0, none⟩)], args := #[] }
set_option maxRecDepth 100000 in
theorem kParse_dies (W : World) (t : Array Value) (b1 b2 : Nat) (v1 v2 : Value) (h2 : t.getD 2 undef = .pointer (some ⟨b1, 0, none⟩)) (h3 : t.getD 3 undef = .pointer (some ⟨b2, 0, none⟩))
  (r1 : Row W b1 59 #[v1]) (r2 : Row W b2 29 #[v2]) (R : Ending → World → Prop) (hR : ∀ W', Keeps W W' [b1, b2] → R (.returned (.tuple #[.slice none 0 0, .int .i64 280])) W') :
  bodyPostD Tryz.prog Tryz.f38 R (Exit.panic [{ v := .iface 110 (.agg #[]), recovered := false }]) { tmps := t, defers := [kDefer b1 b2] } W := by
 refine leaves_cons (f := 84) (args := #[.pointer (some ⟨b1, 0, none⟩), .pointer (some ⟨b2, 0, none⟩)]) (by simp) (by simp [go_sem]) ?_
 refine (kCatch_stop _ _ W b1 b2 rfl rfl v1 v2 r1 r2).mono ?_
 rintro e u' w'' ⟨rfl, rfl, q1, q2, hk⟩
 have c1 := q1.cell 0
 have c2 := q2.cell 0
 simp at c1 c2
 rw [Array.getD_eq_getD_getElem?] at h2 h3
 simp [Leaves, settle, results, Tryz.results38, go_sem, h2, h3, c1, c2]
 exact hR _ hk
set_option maxRecDepth 100000 in
theorem kParse_ends (W : World) (t : Array Value) (b1 b2 : Nat) (v1 v2 : Value) (h2 : t.getD 2 undef = .pointer (some ⟨b1, 0, none⟩)) (h3 : t.getD 3 undef = .pointer (some ⟨b2, 0, none⟩))
  (r1 : Row W b1 59 #[v1]) (r2 : Row W b2 29 #[v2]) (R : Ending → World → Prop) (hR : R (.returned (.tuple #[v1, v2])) W) :
  bodyPostD Tryz.prog Tryz.f38 R Exit.ret { tmps := t, defers := [kDefer b1 b2] } W := by
 have c1 := r1.cell 0
 have c2 := r2.cell 0
 simp at c1 c2
 rw [Array.getD_eq_getD_getElem?] at h2 h3
 refine leaves_cons (f := 84) (args := #[.pointer (some ⟨b1, 0, none⟩), .pointer (some ⟨b2, 0, none⟩)]) (by simp) (by simp [go_sem]) ?_
 refine (kCatch_idle _ _ W).mono ?_
 rintro e u' w'' ⟨rfl, rfl, rfl⟩
 simp [Leaves, settle, results, Tryz.results38, go_sem, h2, h3, c1, c2]
 exact hR

set_option maxRecDepth 100000 in
set_option maxHeartbeats 8000000 in
theorem kParse_any (w : World) (s : List UInt8) (hM : MaxL w) (hs : s.length ≤ 100000) :
  Calls Tryz.prog 38 #[strV s] w (KParsed w s) := by
 have hmf : ∀ (fn : Fn) (first cap : Array Value) (w : World), (Instr.makeFunc fn first cap).run Tryz.prog w = .ok (.func fn first cap) w := fun _ _ _ _ => rfl
 unfold strV
 by_cases h48 : s.length ≤ 48
 ·have hd : decide ((s.length : Int) ≤ 48) = true := by simp; omega
  go_enter_defers Tryz.func38, Tryz.ntmps38
  go_wp2_with (go_at_call 85; refine (kMust_yes _).mono ?_; rintro e w' ⟨rfl, rfl⟩)
  obtain ⟨W0, hW0⟩ : ∃ W', ((w.alloc (.cells #[.string ⟨s.toArray⟩] 9)).alloc (.cells #[.slice none 0 0] 59)).alloc (.cells #[.int .i64 0] 29) = W' := ⟨_, rfl⟩
  have hk0 : Keeps w W0 [] := by rw [← hW0]; exact ((Keeps.alloc _ _).trans (Keeps.alloc _ _) (by simp)).trans (Keeps.alloc _ _) (by simp)
  have hr0 : Row W0 w.heap.size 9 #[strV s] := by rw [← hW0]; exact ((Row.new w _ _).alloc _).alloc _
  have hr1 : Row W0 (w.heap.size + 1) 59 #[.slice none 0 0] := by
   rw [← hW0]
   have := (Row.new (w.alloc (.cells #[.string ⟨s.toArray⟩] 9)) 59 #[.slice none 0 0]).alloc (.cells #[.int .i64 0] 29)
   rw [show (w.alloc (.cells #[.string ⟨s.toArray⟩] 9)).heap.size = w.heap.size + 1 by simp] at this
   exact this
  have hr2 : Row W0 (w.heap.size + 1 + 1) 29 #[.int .i64 0] := by
   rw [← hW0]
   have := Row.new ((w.alloc (.cells #[.string ⟨s.toArray⟩] 9)).alloc (.cells #[.slice none 0 0] 59)) 29 #[.int .i64 0]
   rw [show ((w.alloc (.cells #[.string ⟨s.toArray⟩] 9)).alloc (.cells #[.slice none 0 0] 59)).heap.size = w.heap.size + 1 + 1 by simp] at this
   exact this
  rw [hW0]
  clear hW0
  obtain ⟨B, hB⟩ : ∃ B, w.heap.size = B := ⟨_, rfl⟩
  rw [hB] at hr0 hr1 hr2 ⊢
  have HB := Lib.hid hB
  have H0 := Lib.hid (And.intro hk0 (And.intro hr0 (And.intro hr1 (And.intro hr2 hM))))
  clear hk0 hr0 hr1 hr2 hB hM
  go_loopg [] s.length (fun g wr => ∃ (acc : List KP) (rest : List UInt8) (v : Value), Hid (kPar s = (kPar rest).map (acc ++ ·)) ∧ OwnedP wr B v acc ∧ Row wr B 9 #[strV rest] ∧ Row wr (B + 1) 59 #[v] ∧ Row wr (B + 1 + 1) 29 #[.int .i64 0] ∧ Keeps w wr [] ∧ rest.length ≤ g ∧ acc.length + rest.length ≤ s.length ∧ Hid (∀ p ∈ acc, p.Ok ∧ p.s.length ≤ 1000))
  case atStart => exact ⟨[], s, .slice none 0 0, Lib.hid (by cases kPar s <;> simp), World.ownsRow_nil _ _ _ _, H0.out.2.1, H0.out.2.2.1, H0.out.2.2.2.1, H0.out.1, Nat.le_refl _, by simp, Lib.hid (fun p hp => nomatch hp)⟩
  case round =>
   obtain ⟨acc, rest, v, HE, ho, hr0, hr1, hr2, hkp, hg, hlen, HOK⟩ := hrel
   have HH := Lib.hid (And.intro ho (And.intro hr0 (And.intro hr1 (And.intro hr2 hkp))))
   have c0 := hr0.cell 0
   simp [strV] at c0
   clear ho hr0 hr1 hr2 hkp
   rcases rest with _ | ⟨x, r⟩
   ·obtain ⟨A, c, rfl, hL⟩ := ownP_slice HH.out.1
    have HC := Lib.hid (KArg.check ⟨fun p hp => (HOK.out p hp).1, hL, H0.out.2.2.2.2.keeps HH.out.2.2.2.2, by simp at hlen; omega, fun p hp => (HOK.out p hp).2⟩ c)
    have HP := Lib.hid (show kPar s = some acc by rw [HE.out]; simp [kPar, kPs])
    have c1 := HH.out.2.2.1.cell 0
    simp only [List.getElem?_toArray, List.getElem?_cons_zero] at c1
    clear hL
    go_wp2_with fail
    refine HC.out.mono ?_
    rintro e w1 ⟨rfl, hk⟩
    have H1 := Lib.hid hk
    have q1 := HH.out.2.2.1.keeps hk
    have q2 := HH.out.2.2.2.1.keeps hk
    have d1 := q1.cell 0
    have d2 := q2.cell 0
    have f1 := q1.frozen 0
    have f2 := q2.frozen 0
    simp only [List.getElem?_toArray, List.getElem?_cons_zero] at d1 d2
    clear hk
    by_cases h0 : kErr acc = 0
    ·have HZ := Lib.hid h0
     rw [h0]
     have HQ := Lib.hid (And.intro q1 q2)
     have e2 := (q2.far (p := ⟨B + 1, 0, none⟩) (by simp) (.slice A acc.length c)).cell 0
     have g2 := (q2.far (p := ⟨B + 1, 0, none⟩) (by simp) (.slice A acc.length c)).frozen 0
     simp only [List.getElem?_toArray, List.getElem?_cons_zero] at e2
     clear h0 q1 q2
     go_wp2_with (go_at_call 85; refine (kMust_yes _).mono ?_; rintro e w' ⟨rfl, rfl⟩)
     have R1 := (HQ.out.1.store 0 (.slice A acc.length c)).far (p := ⟨B + 1 + 1, 0, none⟩) (by simp) (.int .i64 0)
     have R2 := (HQ.out.2.far (p := ⟨B + 1, 0, none⟩) (by simp) (.slice A acc.length c)).store 0 (.int .i64 0)
     have hk1 : Keeps w1 ((w1.setCell ⟨B + 1, 0, none⟩ (.slice A acc.length c)).setCell ⟨B + 1 + 1, 0, none⟩ (.int .i64 0)) [B + 1, B + 1 + 1] := ((Keeps.setCell _ _ _).weaken (T := [B + 1, B + 1 + 1]) (by simp)).trans (Keeps.setCell _ _ _) (by simp)
     have ho := ownP_keep (ownP_keep HH.out.1 H1.out (by simp)) hk1 (fun g hg => by
      have n1 := ownP_ne HH.out.1 HH.out.2.2.1 (by decide)
      have n2 := ownP_ne HH.out.1 HH.out.2.2.2.1 (by decide)
      rw [hg] at n1 n2
      simp at n1 n2 ⊢
      exact ⟨n1, n2⟩)
     refine kParse_ends _ _ (B + 1) (B + 1 + 1) (.slice A acc.length c) (.int .i64 0) rfl rfl (by simpa using R1) (by simpa using R2) _ ⟨?_, .inl ⟨acc, _, h48, HP.out, HZ.out, rfl, by rw [HB.out]; exact ho⟩⟩
     exact (HH.out.2.2.2.2.trans H1.out (by simp)).trans hk1 (fun x hx hlt => by have := HB.out; simp at hx; omega)
    ·have hz : (((kErr acc : Nat) : Int) == 0) = false := by simp; omega
     have HZ := Lib.hid h0
     clear h0 d1 d2 f1 f2
     have HQ := Lib.hid (And.intro q1 q2)
     clear q1 q2
     go_wp2_with (go_at_call 85; refine (kMust_no _).mono ?_; rintro e w' ⟨rfl, rfl⟩)
     refine kParse_dies _ _ (B + 1) (B + 1 + 1) _ _ rfl rfl HQ.out.1 HQ.out.2 _ fun W' hk => ⟨?_, .inr ⟨fun ⟨_, l', hp, he⟩ => ?_, rfl⟩⟩
     ·exact (HH.out.2.2.2.2.trans H1.out (by simp)).trans hk (fun x hx hlt => by have := HB.out; simp at hx; omega)
     ·rw [HP.out] at hp
      injection hp with hp
      subst hp
      exact HZ.out he
   ·have e1 := str_tail x r
    have e2 := str_head x r
    have hz : (r.length : Int) + 1 ≤ 9223372036854775807 := by simp only [List.length_cons] at hlen; omega
    go_wp2_with fail
    have hr0 := HH.out.2.1
    have hx := x.toNat_lt
    have M1 := fun (W : World) (hW : Keeps wr W []) => (hr0.keep hW (by simp)).cell 0
    simp only [List.getElem?_toArray, List.getElem?_cons_zero, strV] at M1
    have HX := Lib.hid (show -9223372036854775808 ≤ (x.toNat : Int) ∧ (x.toNat : Int) ≤ 9223372036854775807 by omega)
    clear hx hr0 c0
    by_cases h1 : x = 1
    ·subst h1
     have hkv : kOfKind 1 = .agg #[kFn 105, kFn 106, kFn 108, kFn 110] ∧ kIs 1 = true := by
      unfold kOfKind kIs
      first | exact ⟨rfl, rfl⟩ | simp [hki, kNone]
     have HKV := Lib.hid hkv
     clear hkv
     refine wp_region_fills (kO1) (kO2 (kFn 105) (kFn 106) (kFn 108) (kFn 110)) _ (by kernel_rfl) rfl (by kernel_rfl) ?_
     refine loose_has (fun v W => ∃ b, v = .map (some b) ∧ Kinds W b) (fun W vals hW hkn φ' hφ => ?_) ?_
     ·simp only [knows] at hkn
      try simp only [and_true] at hkn
      have hWF := Lib.hid hW
      replace hW := KeepsF.keeps hW
      clear hkn
      refine ⟨?_⟩
      simp only [fill]
      go_simp
      (with_reducible refine loosef_has hφ ?_; refine (kKinds_any W).mono ?_; rintro e w2 ⟨b, rfl, h1, h2⟩; exact ⟨_, rfl, h2, b, rfl, h1⟩)
     simp only [addEnt]
     apply loose_is
     ·intro W vals hW hkn
      clear hkn
      have hWF := Lib.hid hW
      replace hW := KeepsF.keeps hW
      refine ⟨?_⟩
      simp only [fill]
      go_simp
      first | exact ⟨KeepsF.refl _, rfl⟩ | exact ⟨KeepsF.of (Keeps.alloc _ _), rfl⟩
     simp only [addEnt]
     apply loose_is
     ·intro W vals hW hkn
      clear hkn
      have hWF := Lib.hid hW
      replace hW := KeepsF.keeps hW
      refine ⟨?_⟩
      simp only [fill]
      go_simp
      first | exact ⟨KeepsF.refl _, rfl⟩ | exact ⟨KeepsF.of (Keeps.alloc _ _), rfl⟩
     simp only [addEnt]
     apply loose_is
     ·intro W vals hW hkn
      clear hkn
      have hWF := Lib.hid hW
      replace hW := KeepsF.keeps hW
      refine ⟨?_⟩
      simp only [fill]
      go_simp
      first | exact ⟨KeepsF.refl _, rfl⟩ | exact ⟨KeepsF.of (Keeps.alloc _ _), rfl⟩
     simp only [addEnt]
     apply loose_is
     ·intro W vals hW hkn
      simp only [knows] at hkn
      try simp only [and_true] at hkn
      have hWF := Lib.hid hW
      replace hW := KeepsF.keeps hW
      obtain ⟨W1, h0, h1, b2, hv, hb⟩ := hkn (by decide); have hwk : IntKind.i64.wrap 1 = 1 := IntWalk.i64_in _ (by have := HX.out; omega); have hlk := (hb.fills h1).look 1 HX.out.1 HX.out.2 true; rw [HKV.out.1, HKV.out.2, if_pos rfl] at hlk; clear hb
      refine ⟨?_⟩
      simp only [fill]
      go_simp
      first | exact ⟨KeepsF.refl _, rfl⟩ | exact ⟨KeepsF.of (Keeps.alloc _ _), rfl⟩
     simp only [addEnt]
     apply loose_is
     ·intro W vals hW hkn
      clear hkn
      have hWF := Lib.hid hW
      replace hW := KeepsF.keeps hW
      refine ⟨?_⟩
      simp only [fill]
      go_simp
      first | exact ⟨KeepsF.refl _, rfl⟩ | exact ⟨KeepsF.of (Keeps.alloc _ _), rfl⟩
     simp only [addEnt]
     apply loose_is
     ·intro W vals hW hkn
      clear hkn
      have hWF := Lib.hid hW
      replace hW := KeepsF.keeps hW
      refine ⟨?_⟩
      simp only [fill]
      go_simp
      first | exact ⟨KeepsF.refl _, rfl⟩ | exact ⟨KeepsF.of (Keeps.alloc _ _), rfl⟩
     simp only [addEnt]
     apply loose_is
     ·intro W vals hW hkn
      clear hkn
      have hWF := Lib.hid hW
      replace hW := KeepsF.keeps hW
      refine ⟨?_⟩
      simp only [fill]
      go_simp
      first | exact ⟨KeepsF.refl _, rfl⟩ | exact ⟨KeepsF.of (Keeps.alloc _ _), rfl⟩
     simp only [addEnt]
     refine loose_has (fun v W => ∃ b, v = .pointer (some ⟨b, 0, none⟩) ∧ wr.heap.size ≤ b ∧ (W.heap[b]? = some kO1 ∨ W.heap[b]? = some (kO2 (kFn 105) (kFn 106) (kFn 108) (kFn 110)))) (fun W vals hW hkn φ' hφ => ?_) ?_
     ·simp only [knows] at hkn
      try simp only [and_true] at hkn
      have hWF := Lib.hid hW
      replace hW := KeepsF.keeps hW
      clear hkn
      refine ⟨?_⟩
      simp only [fill]
      go_simp
      exact loosef_value hφ (.of (Keeps.alloc _ _)) ⟨_, rfl, hW.size, .inl (heap_alloc_new _ _)⟩
     simp only [addEnt]
     refine loose_had [4] (fun rd _ W => ∃ b, rd = [.pointer (some ⟨b, 0, none⟩)] ∧ W.heap[b]? = some (kO2 (kFn 105) (kFn 106) (kFn 108) (kFn 110))) (by kernel_rfl) (fun W vals hW hkn φ' hφ => ?_) ?_
     ·simp only [knows] at hkn
      try simp only [and_true] at hkn
      have hWF := Lib.hid hW
      replace hW := KeepsF.keeps hW
      obtain ⟨W1, h0, h1, b3, hv3, hb3, ho⟩ := hkn.1 (by decide); replace ho := h1.slot ho; obtain ⟨v1, v2, v3, v4, d1, d2, d3, d4, fr⟩ := kCell ho; have HQ := Lib.hid (kFill hb3 ho); have g0 := fr 0; have g1 := fr 1; have g2 := fr 2; have g3 := fr 3; clear fr ho
      refine ⟨?_⟩
      simp only [fill]
      go_simp
      exact ⟨HQ.out.1, hφ.out _ _ ⟨_, by simp [hv3], HQ.out.2⟩⟩
     simp only [addEnt]
     apply loose_is
     ·intro W vals hW hkn
      clear hkn
      have hWF := Lib.hid hW
      replace hW := KeepsF.keeps hW
      refine ⟨?_⟩
      simp only [fill]
      go_simp
      first | exact ⟨KeepsF.refl _, rfl⟩ | exact ⟨KeepsF.of (Keeps.alloc _ _), rfl⟩
     simp only [addEnt]
     refine loose_nil (fun W vals hW hkn => ?_)
     simp only [knowsAll] at hkn
     try simp only [and_true] at hkn
     simp only [fill, Act.put, List.setIfInBounds_toArray, List.set_cons_succ, List.set_cons_zero]
     obtain ⟨⟨_, W1, h0, h1, b5, hv5, ho⟩, _⟩ := hkn
     obtain hv5 : vals 4 = .pointer (some ⟨b5, 0, none⟩) := by simpa using hv5
     rw [hv5]
     have HW := Lib.hid (And.intro hW.keeps (show Row W b5 114 #[kFn 105, kFn 106, kFn 108, kFn 110] from h1.full ho))
     clear hW h0 h1 ho hv5 M1
     generalize vals 14 = v14
     have hrB := HH.out.2.1.keeps HW.out.1
     have c0 := hrB.cell 0
     have f0 := hrB.frozen 0
     simp only [List.getElem?_toArray, List.getElem?_cons_zero, strV] at c0
     have HB2 := Lib.hid (hrB.store 0 (strV r))
     clear hrB
     go_wp2_with (go_at_call 85; refine (kMust_yes _).mono ?_; rintro e w' ⟨rfl, rfl⟩)
     obtain ⟨W2, hW2⟩ : ∃ W', W.setCell ⟨B, 0, none⟩ (.string ⟨r.toArray⟩) = W' := ⟨_, rfl⟩
     have hk2 : Keeps W W2 [B] := by rw [← hW2]; exact Keeps.setCell _ _ _
     have HB3 := Lib.hid (show Row W2 B 9 #[strV r] by rw [← hW2]; simpa [strV] using HB2.out)
     rw [hW2]
     clear hW2 HB2 c0 f0
     have HV := Lib.hid (ownP_keep (HH.out.1) ((HW.out.1.weaken (T := [B]) (by simp)).trans hk2 (fun _ h _ => h)) (fun g hg => by
      have n1 := ownP_ne HH.out.1 HH.out.2.1 (by decide)
      rw [hg] at n1
      simpa using n1))
     have q1 := (HH.out.2.2.1.keeps HW.out.1).keep hk2 (by simp)
     have q2 := (HH.out.2.2.2.1.keeps HW.out.1).keep hk2 (by simp; omega)
     have q5 := HW.out.2.keep hk2 (by
      have := HW.out.2.ne_type (HH.out.2.1.keeps HW.out.1) (by decide)
      simpa using this)
     have hbB : b5 ≠ B := HW.out.2.ne_type (HH.out.2.1.keeps HW.out.1) (by decide)
     have HK2 := Lib.hid (((HH.out.2.2.2.2.trans HW.out.1 (T := []) (S := []) (by simp)).weaken (T := [B]) (by simp)).trans hk2 (fun _ h _ => h))
     have HQ := Lib.hid (And.intro q1 (And.intro q2 q5))
     have HMM := Lib.hid (show r.length ≤ 1000000 by simp only [List.length_cons] at hlen; omega)
     rcases hrd : kRd 1 r with _ | ⟨p, t⟩
     ·have N1 := fun (W' : World) (hW' : Keeps W2 W' []) => (q1.keep hW' (by simp)).cell 0
      have N5 := fun (W' : World) (hW' : Keeps W2 W' []) => (q5.keep hW' (by simp)).cell 2
      simp only [List.getElem?_toArray, List.getElem?_cons_zero, List.getElem?_cons_succ] at N1 N5
      have HRD := Lib.hid hrd
      clear hrd q1 q2 q5 hk2 hbB
      refine wp_region_dies _ 3 _ rfl (by kernel_rfl) rfl (by kernel_rfl) ?_
      simp only [List.take_succ_cons, List.take_zero]
      apply loose_is
      ·intro W vals hW hkn
       clear hkn
       refine ⟨?_⟩
       simp only [fill]
       go_simp
       first | exact ⟨Keeps.refl _ _, rfl⟩ | exact ⟨Keeps.alloc _ _, rfl⟩
      simp only [addEnt]
      apply loose_is
      ·intro W vals hW hkn
       clear hkn
       refine ⟨?_⟩
       simp only [fill]
       go_simp
       first | exact ⟨Keeps.refl _ _, rfl⟩ | exact ⟨Keeps.alloc _ _, rfl⟩
      simp only [addEnt]
      apply loose_is
      ·intro W vals hW hkn
       clear hkn
       refine ⟨?_⟩
       simp only [fill]
       go_simp
       first | exact ⟨Keeps.refl _ _, rfl⟩ | exact ⟨Keeps.alloc _ _, rfl⟩
      simp only [addEnt]
      refine loose_nil (fun W' vals hW hkn => ?_)
      clear hkn
      simp only [fill, Act.put, List.setIfInBounds_toArray, List.set_cons_succ, List.set_cons_zero]
      refine ⟨rfl, 108, #[.pointer (some ⟨B, 0, none⟩)], W', by go_simp, ?_⟩
      refine (kRd_1 W' B r (HB3.out.keeps hW) HMM.out).mono ?_
      rw [HRD.out]
      rintro e w3 ⟨hk3, rfl⟩
      refine ⟨_, rfl, fun a' hd' ht' => ?_⟩
      obtain ⟨t', d'⟩ := a'
      simp only at hd'
      subst hd'
      have t2 := ht' 2 (off_all (by kernel_rfl))
      have t3 := ht' 3 (off_all (by kernel_rfl))
      simp only [Exit.inBlock, Exit.then]
      refine kParse_dies w3 t' (B + 1) (B + 1 + 1) v (.int .i64 0) (by rw [Array.getD_eq_getD_getElem?, t2]; rfl) (by rw [Array.getD_eq_getD_getElem?, t3]; rfl) ((HQ.out.1.keeps hW).keep hk3 (by simp)) ((HQ.out.2.1.keeps hW).keep hk3 (by simp; omega)) _ fun W'' hk4 => ⟨?_, .inr ⟨fun ⟨_, l', hp, _⟩ => ?_, rfl⟩⟩
      ·have hwB := HB.out
       have k1 := ((HK2.out.trans hW (T := []) (S := [B]) (by simp)).trans hk3 (fun _ h _ => h)).weaken (T := []) (fun x hx hlt => by simp at hx; omega)
       exact k1.trans hk4 (fun x hx hlt => by simp at hx; omega)
      ·rw [HE.out, kPar_none (b := 1) (l := r) (fun _ => HRD.out)] at hp
       cases hp
     ·have HRD := Lib.hid hrd
      have N1 := fun (W' : World) (hW' : Keeps W2 W' [B]) => (q1.keep hW' (by simp)).cell 0
      have N5 := fun (W' : World) (hW' : Keeps W2 W' [B]) => (q5.keep hW' (by simpa using hbB)).cell 2
      simp only [List.getElem?_toArray, List.getElem?_cons_zero, List.getElem?_cons_succ] at N1 N5
      clear hrd q1 q2 q5 hk2 hbB
      obtain ⟨pk, pn, pf, ps⟩ := p
      refine wp_region_but B 28 _ 5 (by kernel_rfl) rfl (by kernel_rfl) ?_
      simp only [List.take_succ_cons, List.take_zero, List.drop_succ_cons, List.drop_zero]
      apply looses_is _ rfl
      ·intro W vals hW hkn
       clear hkn
       refine ⟨?_⟩
       simp only [fill]
       go_simp
       first | exact ⟨Keeps.refl _ _, rfl⟩ | exact ⟨Keeps.alloc _ _, rfl⟩
      simp only [addEnt]
      apply looses_is _ rfl
      ·intro W vals hW hkn
       clear hkn
       refine ⟨?_⟩
       simp only [fill]
       go_simp
       first | exact ⟨Keeps.refl _ _, rfl⟩ | exact ⟨Keeps.alloc _ _, rfl⟩
      simp only [addEnt]
      apply looses_is _ rfl
      ·intro W vals hW hkn
       clear hkn
       refine ⟨?_⟩
       simp only [fill]
       go_simp
       first | exact ⟨Keeps.refl _ _, rfl⟩ | exact ⟨Keeps.alloc _ _, rfl⟩
      simp only [addEnt]
      refine looses_at (fun v W' => v = kpV ⟨pk, pn, pf, ps⟩ ∧ Row W' B 9 #[strV t]) rfl (fun W' vals hW hkn φ' hφ => ?_) ?_
      ·simp only [knowsS] at hkn
       try simp only [and_true] at hkn
       clear hkn
       refine ⟨?_⟩
       simp only [fill]
       go_simp
       ((with_reducible refine looseUponS_has hφ ?_); refine (kRd_1 W' B r (HB3.out.keeps hW) HMM.out).mono ?_; rw [HRD.out]; rintro e w3 ⟨hk3, rfl, hr3⟩; exact ⟨_, rfl, hk3, rfl, hr3⟩)
      simp only [addEnt]
      refine looses_has (fun v W' => ∃ g, v = .slice (some ⟨g, 0, none⟩) 1 1 ∧ W2.heap.size ≤ g ∧ Row W' g 63 #[.int .i64 pk, .int .i64 pn, .float .f64 pf, strV ps]) rfl (fun W' vals hW hkn φ' hφ => ?_) ?_
      ·simp only [knowsS] at hkn
       try simp only [and_true] at hkn
       obtain ⟨W1, h0, h1, hv, _⟩ := hkn (by decide); simp only [kpV] at hv
       refine ⟨?_⟩
       simp only [fill]
       go_simp
       exact looseUpon_value hφ (Keeps.alloc _ _) ⟨_, rfl, hW.size, Row.new _ _ _⟩
      simp only [addEnt]
      refine looses_nil (fun W9 vals hW hkn => ?_)
      simp only [knowsAllS] at hkn
      try simp only [and_true] at hkn
      simp only [fill, Act.put, List.setIfInBounds_toArray, List.set_cons_succ, List.set_cons_zero]
      obtain ⟨⟨W1, h0, h1, g, hv, hgl, hg⟩, W4, h4, h5, hv4, hr4⟩ := hkn
      have h1 : Keeps W1 W9 [B] := by simpa [relS] using h1
      have h5 : Keeps W4 W9 [] := by simpa [relS] using h5
      have hBl := HB3.out.lt
      have hg9 := hg.keep h1 (by simp; omega)
      have HK9 := Lib.hid (HK2.out.trans hW (fun _ h _ => h))
      have HV9 := Lib.hid (ownP_keep HV.out hW (fun g' hg' => by
       have n1 := ownP_ne HV.out HB3.out (by decide)
       rw [hg'] at n1
       simpa using n1))
      have H9 := Lib.hid (And.intro (hr4.keeps h5) (And.intro (HQ.out.1.keep hW (by simp)) (HQ.out.2.1.keep hW (by simp; omega))))
      have HG := Lib.hid (show ∀ (j : Nat) u, (kpCells ⟨pk, pn, pf, ps⟩)[j]? = some u → W9.cell? ((⟨g, 0, none⟩ : Addr).add j) = some u from fun j u hu => by
       have hc := hg9.cell j
       have : W9.cell? ((⟨g, 0, none⟩ : Addr).add j) = W9.cell? ⟨g, j, none⟩ := by
        unfold Addr.add
        split
        ·rename_i h0; subst h0; rfl
        ·simp
       rw [this, hc, ← hu]
       simp [kpCells])
      have HL9 := Lib.hid hW.size
      rw [hv]
      clear hv hv4 h0 h1 h4 h5 hr4 hg hg9 hW N1 N5
      generalize vals 28 = v28
      obtain ⟨i0, hi, hz0, hz1, hz2⟩ := info_parts infoPart
      have hal : acc.length ≤ 48 := by simp only [List.length_cons] at hlen; omega
      have hsz9 : B ≤ W9.heap.size := by have := HL9.out; omega
      refine wpList_append_own_at W9 rfl (.tmp 25) (.tmp 29) 59 rfl B 63 i0 (.agg #[.int .i64 0, .int .i64 0, .float .f64 0, .string ⟨#[]⟩]) 4 40 undParts hi hz0 hz1 hz2 rfl (by decide) v acc.length (kFlat acc) rfl HV9.out ⟨g, 0, none⟩ 1 1 (kpCells ⟨pk, pn, pf, ps⟩) rfl rfl HG.out (by simp [kpCells, Value.oneCell', strV]) (by simp [maxLen]; omega) (by omega) hsz9 ?_
      intro v' w5 hown hgrow _ hbl
      have hown : OwnedP w5 B v' (acc ++ [⟨pk, pn, pf, ps⟩]) := by
       unfold OwnedP
       rw [List.length_append, show kFlat (acc ++ [⟨pk, pn, pf, ps⟩]) = kFlat acc ++ kpCells ⟨pk, pn, pf, ps⟩ by simp [kFlat]]
       exact hown
      obtain ⟨A', c', rfl, _⟩ := ownP_slice hown
      have n1 := ownP_ne HV9.out H9.out.1 (by decide)
      have n2 := ownP_ne HV9.out H9.out.2.1 (by decide)
      have n3 := ownP_ne HV9.out H9.out.2.2 (by decide)
      have hk5 := Keeps.of_grown hgrow
      have o1 := H9.out.1.keep hk5 (by simpa using n1)
      have o2 := H9.out.2.1.keep hk5 (by simpa using n2)
      have o3 := H9.out.2.2.keep hk5 (by simpa using n3)
      have c1 := o2.cell 0
      have f1 := o2.frozen 0
      simp only [List.getElem?_toArray, List.getElem?_cons_zero] at c1
      have H5 := Lib.hid (And.intro hown (And.intro hk5 (And.intro o1 (And.intro o2 o3))))
      have HNB := Lib.hid (show ∀ x, v.ownBlock = some x → B ≤ x from fun x hx => (HV9.out.lt x hx).1)
      clear hown hgrow hbl n1 n2 n3 hk5 o1 o2 o3 hz hal hsz9 hBl hgl
      go_wp2_with fail
      have hle := kRd_len HRD.out
      go_roundg t.length
      case measure => simp only [List.length_cons] at hg; omega
      case rel =>
       have hkc : Keeps w5 (w5.setCell ⟨B + 1, 0, none⟩ (.slice A' (acc.length + 1) c')) [B + 1] := Keeps.setCell _ _ _
       have hown : OwnedP w5 B (.slice A' (acc.length + 1) c') (acc ++ [⟨pk, pn, pf, ps⟩]) := by have := H5.out.1; rw [List.length_append] at this; exact this
       have m1 := ownP_ne hown H5.out.2.2.2.1 (by decide)
       refine ⟨acc ++ [⟨pk, pn, pf, ps⟩], t, .slice A' (acc.length + 1) c', Lib.hid ?_, ownP_keep hown hkc (fun g' hg' => by rw [hg'] at m1; simpa using m1), H5.out.2.2.1.keep hkc (by simp), ?_, H5.out.2.2.2.2.keep hkc (by simp), ?_, Nat.le_refl _, ?_, Lib.hid ?_⟩
       ·rw [HE.out, kPar_step (b := 1) (l := r) (by rw [show ((1 : UInt8).toNat : Int) = 1 from rfl]; exact HKV.out.2) HRD.out]
        cases kPar t <;> simp
       ·have := H5.out.2.2.2.1.store 0 (.slice A' (acc.length + 1) c')
        simpa using this
       ·have hwB := HB.out
        have k1 := HK9.out.weaken (T := []) (fun x hx hlt => by simp at hx; omega)
        have k2 := k1.trans H5.out.2.1 (fun x hx hlt => by have := HNB.out x (by simpa using hx); omega)
        exact k2.trans hkc (fun x hx hlt => by simp at hx; omega)
       ·simp only [List.length_append, List.length_cons, List.length_nil] at hlen ⊢; omega
       ·intro q hq
        rcases List.mem_append.1 hq with hq | hq
        ·exact HOK.out q hq
        ·obtain rfl : q = ⟨pk, pn, pf, ps⟩ := by simpa using hq
         exact ⟨hle.2.2, by have := hle.2.1; simp only [List.length_cons] at hlen; omega⟩
    ·by_cases h2 : x = 2
     ·subst h2
      have hkv : kOfKind 2 = .agg #[kFn 112, kFn 113, kFn 115, kFn 118] ∧ kIs 2 = true := by
       unfold kOfKind kIs
       first | exact ⟨rfl, rfl⟩ | simp [hki, kNone]
      have HKV := Lib.hid hkv
      clear hkv
      refine wp_region_fills (kO1) (kO2 (kFn 112) (kFn 113) (kFn 115) (kFn 118)) _ (by kernel_rfl) rfl (by kernel_rfl) ?_
      refine loose_has (fun v W => ∃ b, v = .map (some b) ∧ Kinds W b) (fun W vals hW hkn φ' hφ => ?_) ?_
      ·simp only [knows] at hkn
       try simp only [and_true] at hkn
       have hWF := Lib.hid hW
       replace hW := KeepsF.keeps hW
       clear hkn
       refine ⟨?_⟩
       simp only [fill]
       go_simp
       (with_reducible refine loosef_has hφ ?_; refine (kKinds_any W).mono ?_; rintro e w2 ⟨b, rfl, h1, h2⟩; exact ⟨_, rfl, h2, b, rfl, h1⟩)
      simp only [addEnt]
      apply loose_is
      ·intro W vals hW hkn
       clear hkn
       have hWF := Lib.hid hW
       replace hW := KeepsF.keeps hW
       refine ⟨?_⟩
       simp only [fill]
       go_simp
       first | exact ⟨KeepsF.refl _, rfl⟩ | exact ⟨KeepsF.of (Keeps.alloc _ _), rfl⟩
      simp only [addEnt]
      apply loose_is
      ·intro W vals hW hkn
       clear hkn
       have hWF := Lib.hid hW
       replace hW := KeepsF.keeps hW
       refine ⟨?_⟩
       simp only [fill]
       go_simp
       first | exact ⟨KeepsF.refl _, rfl⟩ | exact ⟨KeepsF.of (Keeps.alloc _ _), rfl⟩
      simp only [addEnt]
      apply loose_is
      ·intro W vals hW hkn
       clear hkn
       have hWF := Lib.hid hW
       replace hW := KeepsF.keeps hW
       refine ⟨?_⟩
       simp only [fill]
       go_simp
       first | exact ⟨KeepsF.refl _, rfl⟩ | exact ⟨KeepsF.of (Keeps.alloc _ _), rfl⟩
      simp only [addEnt]
      apply loose_is
      ·intro W vals hW hkn
       simp only [knows] at hkn
       try simp only [and_true] at hkn
       have hWF := Lib.hid hW
       replace hW := KeepsF.keeps hW
       obtain ⟨W1, h0, h1, b2, hv, hb⟩ := hkn (by decide); have hwk : IntKind.i64.wrap 2 = 2 := IntWalk.i64_in _ (by have := HX.out; omega); have hlk := (hb.fills h1).look 2 HX.out.1 HX.out.2 true; rw [HKV.out.1, HKV.out.2, if_pos rfl] at hlk; clear hb
       refine ⟨?_⟩
       simp only [fill]
       go_simp
       first | exact ⟨KeepsF.refl _, rfl⟩ | exact ⟨KeepsF.of (Keeps.alloc _ _), rfl⟩
      simp only [addEnt]
      apply loose_is
      ·intro W vals hW hkn
       clear hkn
       have hWF := Lib.hid hW
       replace hW := KeepsF.keeps hW
       refine ⟨?_⟩
       simp only [fill]
       go_simp
       first | exact ⟨KeepsF.refl _, rfl⟩ | exact ⟨KeepsF.of (Keeps.alloc _ _), rfl⟩
      simp only [addEnt]
      apply loose_is
      ·intro W vals hW hkn
       clear hkn
       have hWF := Lib.hid hW
       replace hW := KeepsF.keeps hW
       refine ⟨?_⟩
       simp only [fill]
       go_simp
       first | exact ⟨KeepsF.refl _, rfl⟩ | exact ⟨KeepsF.of (Keeps.alloc _ _), rfl⟩
      simp only [addEnt]
      apply loose_is
      ·intro W vals hW hkn
       clear hkn
       have hWF := Lib.hid hW
       replace hW := KeepsF.keeps hW
       refine ⟨?_⟩
       simp only [fill]
       go_simp
       first | exact ⟨KeepsF.refl _, rfl⟩ | exact ⟨KeepsF.of (Keeps.alloc _ _), rfl⟩
      simp only [addEnt]
      refine loose_has (fun v W => ∃ b, v = .pointer (some ⟨b, 0, none⟩) ∧ wr.heap.size ≤ b ∧ (W.heap[b]? = some kO1 ∨ W.heap[b]? = some (kO2 (kFn 112) (kFn 113) (kFn 115) (kFn 118)))) (fun W vals hW hkn φ' hφ => ?_) ?_
      ·simp only [knows] at hkn
       try simp only [and_true] at hkn
       have hWF := Lib.hid hW
       replace hW := KeepsF.keeps hW
       clear hkn
       refine ⟨?_⟩
       simp only [fill]
       go_simp
       exact loosef_value hφ (.of (Keeps.alloc _ _)) ⟨_, rfl, hW.size, .inl (heap_alloc_new _ _)⟩
      simp only [addEnt]
      refine loose_had [4] (fun rd _ W => ∃ b, rd = [.pointer (some ⟨b, 0, none⟩)] ∧ W.heap[b]? = some (kO2 (kFn 112) (kFn 113) (kFn 115) (kFn 118))) (by kernel_rfl) (fun W vals hW hkn φ' hφ => ?_) ?_
      ·simp only [knows] at hkn
       try simp only [and_true] at hkn
       have hWF := Lib.hid hW
       replace hW := KeepsF.keeps hW
       obtain ⟨W1, h0, h1, b3, hv3, hb3, ho⟩ := hkn.1 (by decide); replace ho := h1.slot ho; obtain ⟨v1, v2, v3, v4, d1, d2, d3, d4, fr⟩ := kCell ho; have HQ := Lib.hid (kFill hb3 ho); have g0 := fr 0; have g1 := fr 1; have g2 := fr 2; have g3 := fr 3; clear fr ho
       refine ⟨?_⟩
       simp only [fill]
       go_simp
       exact ⟨HQ.out.1, hφ.out _ _ ⟨_, by simp [hv3], HQ.out.2⟩⟩
      simp only [addEnt]
      apply loose_is
      ·intro W vals hW hkn
       clear hkn
       have hWF := Lib.hid hW
       replace hW := KeepsF.keeps hW
       refine ⟨?_⟩
       simp only [fill]
       go_simp
       first | exact ⟨KeepsF.refl _, rfl⟩ | exact ⟨KeepsF.of (Keeps.alloc _ _), rfl⟩
      simp only [addEnt]
      refine loose_nil (fun W vals hW hkn => ?_)
      simp only [knowsAll] at hkn
      try simp only [and_true] at hkn
      simp only [fill, Act.put, List.setIfInBounds_toArray, List.set_cons_succ, List.set_cons_zero]
      obtain ⟨⟨_, W1, h0, h1, b5, hv5, ho⟩, _⟩ := hkn
      obtain hv5 : vals 4 = .pointer (some ⟨b5, 0, none⟩) := by simpa using hv5
      rw [hv5]
      have HW := Lib.hid (And.intro hW.keeps (show Row W b5 114 #[kFn 112, kFn 113, kFn 115, kFn 118] from h1.full ho))
      clear hW h0 h1 ho hv5 M1
      generalize vals 14 = v14
      have hrB := HH.out.2.1.keeps HW.out.1
      have c0 := hrB.cell 0
      have f0 := hrB.frozen 0
      simp only [List.getElem?_toArray, List.getElem?_cons_zero, strV] at c0
      have HB2 := Lib.hid (hrB.store 0 (strV r))
      clear hrB
      go_wp2_with (go_at_call 85; refine (kMust_yes _).mono ?_; rintro e w' ⟨rfl, rfl⟩)
      obtain ⟨W2, hW2⟩ : ∃ W', W.setCell ⟨B, 0, none⟩ (.string ⟨r.toArray⟩) = W' := ⟨_, rfl⟩
      have hk2 : Keeps W W2 [B] := by rw [← hW2]; exact Keeps.setCell _ _ _
      have HB3 := Lib.hid (show Row W2 B 9 #[strV r] by rw [← hW2]; simpa [strV] using HB2.out)
      rw [hW2]
      clear hW2 HB2 c0 f0
      have HV := Lib.hid (ownP_keep (HH.out.1) ((HW.out.1.weaken (T := [B]) (by simp)).trans hk2 (fun _ h _ => h)) (fun g hg => by
       have n1 := ownP_ne HH.out.1 HH.out.2.1 (by decide)
       rw [hg] at n1
       simpa using n1))
      have q1 := (HH.out.2.2.1.keeps HW.out.1).keep hk2 (by simp)
      have q2 := (HH.out.2.2.2.1.keeps HW.out.1).keep hk2 (by simp; omega)
      have q5 := HW.out.2.keep hk2 (by
       have := HW.out.2.ne_type (HH.out.2.1.keeps HW.out.1) (by decide)
       simpa using this)
      have hbB : b5 ≠ B := HW.out.2.ne_type (HH.out.2.1.keeps HW.out.1) (by decide)
      have HK2 := Lib.hid (((HH.out.2.2.2.2.trans HW.out.1 (T := []) (S := []) (by simp)).weaken (T := [B]) (by simp)).trans hk2 (fun _ h _ => h))
      have HQ := Lib.hid (And.intro q1 (And.intro q2 q5))
      have HMM := Lib.hid (show r.length ≤ 1000000 by simp only [List.length_cons] at hlen; omega)
      rcases hrd : kRd 2 r with _ | ⟨p, t⟩
      ·have N1 := fun (W' : World) (hW' : Keeps W2 W' []) => (q1.keep hW' (by simp)).cell 0
       have N5 := fun (W' : World) (hW' : Keeps W2 W' []) => (q5.keep hW' (by simp)).cell 2
       simp only [List.getElem?_toArray, List.getElem?_cons_zero, List.getElem?_cons_succ] at N1 N5
       have HRD := Lib.hid hrd
       clear hrd q1 q2 q5 hk2 hbB
       refine wp_region_dies _ 3 _ rfl (by kernel_rfl) rfl (by kernel_rfl) ?_
       simp only [List.take_succ_cons, List.take_zero]
       apply loose_is
       ·intro W vals hW hkn
        clear hkn
        refine ⟨?_⟩
        simp only [fill]
        go_simp
        first | exact ⟨Keeps.refl _ _, rfl⟩ | exact ⟨Keeps.alloc _ _, rfl⟩
       simp only [addEnt]
       apply loose_is
       ·intro W vals hW hkn
        clear hkn
        refine ⟨?_⟩
        simp only [fill]
        go_simp
        first | exact ⟨Keeps.refl _ _, rfl⟩ | exact ⟨Keeps.alloc _ _, rfl⟩
       simp only [addEnt]
       apply loose_is
       ·intro W vals hW hkn
        clear hkn
        refine ⟨?_⟩
        simp only [fill]
        go_simp
        first | exact ⟨Keeps.refl _ _, rfl⟩ | exact ⟨Keeps.alloc _ _, rfl⟩
       simp only [addEnt]
       refine loose_nil (fun W' vals hW hkn => ?_)
       clear hkn
       simp only [fill, Act.put, List.setIfInBounds_toArray, List.set_cons_succ, List.set_cons_zero]
       refine ⟨rfl, 115, #[.pointer (some ⟨B, 0, none⟩)], W', by go_simp, ?_⟩
       refine (kRd_2 W' B r (HB3.out.keeps hW) HMM.out).mono ?_
       rw [HRD.out]
       rintro e w3 ⟨hk3, rfl⟩
       refine ⟨_, rfl, fun a' hd' ht' => ?_⟩
       obtain ⟨t', d'⟩ := a'
       simp only at hd'
       subst hd'
       have t2 := ht' 2 (off_all (by kernel_rfl))
       have t3 := ht' 3 (off_all (by kernel_rfl))
       simp only [Exit.inBlock, Exit.then]
       refine kParse_dies w3 t' (B + 1) (B + 1 + 1) v (.int .i64 0) (by rw [Array.getD_eq_getD_getElem?, t2]; rfl) (by rw [Array.getD_eq_getD_getElem?, t3]; rfl) ((HQ.out.1.keeps hW).keep hk3 (by simp)) ((HQ.out.2.1.keeps hW).keep hk3 (by simp; omega)) _ fun W'' hk4 => ⟨?_, .inr ⟨fun ⟨_, l', hp, _⟩ => ?_, rfl⟩⟩
       ·have hwB := HB.out
        have k1 := ((HK2.out.trans hW (T := []) (S := [B]) (by simp)).trans hk3 (fun _ h _ => h)).weaken (T := []) (fun x hx hlt => by simp at hx; omega)
        exact k1.trans hk4 (fun x hx hlt => by simp at hx; omega)
       ·rw [HE.out, kPar_none (b := 2) (l := r) (fun _ => HRD.out)] at hp
        cases hp
      ·have HRD := Lib.hid hrd
       have N1 := fun (W' : World) (hW' : Keeps W2 W' [B]) => (q1.keep hW' (by simp)).cell 0
       have N5 := fun (W' : World) (hW' : Keeps W2 W' [B]) => (q5.keep hW' (by simpa using hbB)).cell 2
       simp only [List.getElem?_toArray, List.getElem?_cons_zero, List.getElem?_cons_succ] at N1 N5
       clear hrd q1 q2 q5 hk2 hbB
       obtain ⟨pk, pn, pf, ps⟩ := p
       refine wp_region_but B 28 _ 5 (by kernel_rfl) rfl (by kernel_rfl) ?_
       simp only [List.take_succ_cons, List.take_zero, List.drop_succ_cons, List.drop_zero]
       apply looses_is _ rfl
       ·intro W vals hW hkn
        clear hkn
        refine ⟨?_⟩
        simp only [fill]
        go_simp
        first | exact ⟨Keeps.refl _ _, rfl⟩ | exact ⟨Keeps.alloc _ _, rfl⟩
       simp only [addEnt]
       apply looses_is _ rfl
       ·intro W vals hW hkn
        clear hkn
        refine ⟨?_⟩
        simp only [fill]
        go_simp
        first | exact ⟨Keeps.refl _ _, rfl⟩ | exact ⟨Keeps.alloc _ _, rfl⟩
       simp only [addEnt]
       apply looses_is _ rfl
       ·intro W vals hW hkn
        clear hkn
        refine ⟨?_⟩
        simp only [fill]
        go_simp
        first | exact ⟨Keeps.refl _ _, rfl⟩ | exact ⟨Keeps.alloc _ _, rfl⟩
       simp only [addEnt]
       refine looses_at (fun v W' => v = kpV ⟨pk, pn, pf, ps⟩ ∧ Row W' B 9 #[strV t]) rfl (fun W' vals hW hkn φ' hφ => ?_) ?_
       ·simp only [knowsS] at hkn
        try simp only [and_true] at hkn
        clear hkn
        refine ⟨?_⟩
        simp only [fill]
        go_simp
        ((with_reducible refine looseUponS_has hφ ?_); refine (kRd_2 W' B r (HB3.out.keeps hW) HMM.out).mono ?_; rw [HRD.out]; rintro e w3 ⟨hk3, rfl, hr3⟩; exact ⟨_, rfl, hk3, rfl, hr3⟩)
       simp only [addEnt]
       refine looses_has (fun v W' => ∃ g, v = .slice (some ⟨g, 0, none⟩) 1 1 ∧ W2.heap.size ≤ g ∧ Row W' g 63 #[.int .i64 pk, .int .i64 pn, .float .f64 pf, strV ps]) rfl (fun W' vals hW hkn φ' hφ => ?_) ?_
       ·simp only [knowsS] at hkn
        try simp only [and_true] at hkn
        obtain ⟨W1, h0, h1, hv, _⟩ := hkn (by decide); simp only [kpV] at hv
        refine ⟨?_⟩
        simp only [fill]
        go_simp
        exact looseUpon_value hφ (Keeps.alloc _ _) ⟨_, rfl, hW.size, Row.new _ _ _⟩
       simp only [addEnt]
       refine looses_nil (fun W9 vals hW hkn => ?_)
       simp only [knowsAllS] at hkn
       try simp only [and_true] at hkn
       simp only [fill, Act.put, List.setIfInBounds_toArray, List.set_cons_succ, List.set_cons_zero]
       obtain ⟨⟨W1, h0, h1, g, hv, hgl, hg⟩, W4, h4, h5, hv4, hr4⟩ := hkn
       have h1 : Keeps W1 W9 [B] := by simpa [relS] using h1
       have h5 : Keeps W4 W9 [] := by simpa [relS] using h5
       have hBl := HB3.out.lt
       have hg9 := hg.keep h1 (by simp; omega)
       have HK9 := Lib.hid (HK2.out.trans hW (fun _ h _ => h))
       have HV9 := Lib.hid (ownP_keep HV.out hW (fun g' hg' => by
        have n1 := ownP_ne HV.out HB3.out (by decide)
        rw [hg'] at n1
        simpa using n1))
       have H9 := Lib.hid (And.intro (hr4.keeps h5) (And.intro (HQ.out.1.keep hW (by simp)) (HQ.out.2.1.keep hW (by simp; omega))))
       have HG := Lib.hid (show ∀ (j : Nat) u, (kpCells ⟨pk, pn, pf, ps⟩)[j]? = some u → W9.cell? ((⟨g, 0, none⟩ : Addr).add j) = some u from fun j u hu => by
        have hc := hg9.cell j
        have : W9.cell? ((⟨g, 0, none⟩ : Addr).add j) = W9.cell? ⟨g, j, none⟩ := by
         unfold Addr.add
         split
         ·rename_i h0; subst h0; rfl
         ·simp
        rw [this, hc, ← hu]
        simp [kpCells])
       have HL9 := Lib.hid hW.size
       rw [hv]
       clear hv hv4 h0 h1 h4 h5 hr4 hg hg9 hW N1 N5
       generalize vals 28 = v28
       obtain ⟨i0, hi, hz0, hz1, hz2⟩ := info_parts infoPart
       have hal : acc.length ≤ 48 := by simp only [List.length_cons] at hlen; omega
       have hsz9 : B ≤ W9.heap.size := by have := HL9.out; omega
       refine wpList_append_own_at W9 rfl (.tmp 25) (.tmp 29) 59 rfl B 63 i0 (.agg #[.int .i64 0, .int .i64 0, .float .f64 0, .string ⟨#[]⟩]) 4 40 undParts hi hz0 hz1 hz2 rfl (by decide) v acc.length (kFlat acc) rfl HV9.out ⟨g, 0, none⟩ 1 1 (kpCells ⟨pk, pn, pf, ps⟩) rfl rfl HG.out (by simp [kpCells, Value.oneCell', strV]) (by simp [maxLen]; omega) (by omega) hsz9 ?_
       intro v' w5 hown hgrow _ hbl
       have hown : OwnedP w5 B v' (acc ++ [⟨pk, pn, pf, ps⟩]) := by
        unfold OwnedP
        rw [List.length_append, show kFlat (acc ++ [⟨pk, pn, pf, ps⟩]) = kFlat acc ++ kpCells ⟨pk, pn, pf, ps⟩ by simp [kFlat]]
        exact hown
       obtain ⟨A', c', rfl, _⟩ := ownP_slice hown
       have n1 := ownP_ne HV9.out H9.out.1 (by decide)
       have n2 := ownP_ne HV9.out H9.out.2.1 (by decide)
       have n3 := ownP_ne HV9.out H9.out.2.2 (by decide)
       have hk5 := Keeps.of_grown hgrow
       have o1 := H9.out.1.keep hk5 (by simpa using n1)
       have o2 := H9.out.2.1.keep hk5 (by simpa using n2)
       have o3 := H9.out.2.2.keep hk5 (by simpa using n3)
       have c1 := o2.cell 0
       have f1 := o2.frozen 0
       simp only [List.getElem?_toArray, List.getElem?_cons_zero] at c1
       have H5 := Lib.hid (And.intro hown (And.intro hk5 (And.intro o1 (And.intro o2 o3))))
       have HNB := Lib.hid (show ∀ x, v.ownBlock = some x → B ≤ x from fun x hx => (HV9.out.lt x hx).1)
       clear hown hgrow hbl n1 n2 n3 hk5 o1 o2 o3 hz hal hsz9 hBl hgl
       go_wp2_with fail
       have hle := kRd_len HRD.out
       go_roundg t.length
       case measure => simp only [List.length_cons] at hg; omega
       case rel =>
        have hkc : Keeps w5 (w5.setCell ⟨B + 1, 0, none⟩ (.slice A' (acc.length + 1) c')) [B + 1] := Keeps.setCell _ _ _
        have hown : OwnedP w5 B (.slice A' (acc.length + 1) c') (acc ++ [⟨pk, pn, pf, ps⟩]) := by have := H5.out.1; rw [List.length_append] at this; exact this
        have m1 := ownP_ne hown H5.out.2.2.2.1 (by decide)
        refine ⟨acc ++ [⟨pk, pn, pf, ps⟩], t, .slice A' (acc.length + 1) c', Lib.hid ?_, ownP_keep hown hkc (fun g' hg' => by rw [hg'] at m1; simpa using m1), H5.out.2.2.1.keep hkc (by simp), ?_, H5.out.2.2.2.2.keep hkc (by simp), ?_, Nat.le_refl _, ?_, Lib.hid ?_⟩
        ·rw [HE.out, kPar_step (b := 2) (l := r) (by rw [show ((2 : UInt8).toNat : Int) = 2 from rfl]; exact HKV.out.2) HRD.out]
         cases kPar t <;> simp
        ·have := H5.out.2.2.2.1.store 0 (.slice A' (acc.length + 1) c')
         simpa using this
        ·have hwB := HB.out
         have k1 := HK9.out.weaken (T := []) (fun x hx hlt => by simp at hx; omega)
         have k2 := k1.trans H5.out.2.1 (fun x hx hlt => by have := HNB.out x (by simpa using hx); omega)
         exact k2.trans hkc (fun x hx hlt => by simp at hx; omega)
        ·simp only [List.length_append, List.length_cons, List.length_nil] at hlen ⊢; omega
        ·intro q hq
         rcases List.mem_append.1 hq with hq | hq
         ·exact HOK.out q hq
         ·obtain rfl : q = ⟨pk, pn, pf, ps⟩ := by simpa using hq
          exact ⟨hle.2.2, by have := hle.2.1; simp only [List.length_cons] at hlen; omega⟩
     ·by_cases h3 : x = 3
      ·subst h3
       have hkv : kOfKind 3 = .agg #[kFn 120, kFn 121, kFn 123, kFn 124] ∧ kIs 3 = true := by
        unfold kOfKind kIs
        first | exact ⟨rfl, rfl⟩ | simp [hki, kNone]
       have HKV := Lib.hid hkv
       clear hkv
       refine wp_region_fills (kO1) (kO2 (kFn 120) (kFn 121) (kFn 123) (kFn 124)) _ (by kernel_rfl) rfl (by kernel_rfl) ?_
       refine loose_has (fun v W => ∃ b, v = .map (some b) ∧ Kinds W b) (fun W vals hW hkn φ' hφ => ?_) ?_
       ·simp only [knows] at hkn
        try simp only [and_true] at hkn
        have hWF := Lib.hid hW
        replace hW := KeepsF.keeps hW
        clear hkn
        refine ⟨?_⟩
        simp only [fill]
        go_simp
        (with_reducible refine loosef_has hφ ?_; refine (kKinds_any W).mono ?_; rintro e w2 ⟨b, rfl, h1, h2⟩; exact ⟨_, rfl, h2, b, rfl, h1⟩)
       simp only [addEnt]
       apply loose_is
       ·intro W vals hW hkn
        clear hkn
        have hWF := Lib.hid hW
        replace hW := KeepsF.keeps hW
        refine ⟨?_⟩
        simp only [fill]
        go_simp
        first | exact ⟨KeepsF.refl _, rfl⟩ | exact ⟨KeepsF.of (Keeps.alloc _ _), rfl⟩
       simp only [addEnt]
       apply loose_is
       ·intro W vals hW hkn
        clear hkn
        have hWF := Lib.hid hW
        replace hW := KeepsF.keeps hW
        refine ⟨?_⟩
        simp only [fill]
        go_simp
        first | exact ⟨KeepsF.refl _, rfl⟩ | exact ⟨KeepsF.of (Keeps.alloc _ _), rfl⟩
       simp only [addEnt]
       apply loose_is
       ·intro W vals hW hkn
        clear hkn
        have hWF := Lib.hid hW
        replace hW := KeepsF.keeps hW
        refine ⟨?_⟩
        simp only [fill]
        go_simp
        first | exact ⟨KeepsF.refl _, rfl⟩ | exact ⟨KeepsF.of (Keeps.alloc _ _), rfl⟩
       simp only [addEnt]
       apply loose_is
       ·intro W vals hW hkn
        simp only [knows] at hkn
        try simp only [and_true] at hkn
        have hWF := Lib.hid hW
        replace hW := KeepsF.keeps hW
        obtain ⟨W1, h0, h1, b2, hv, hb⟩ := hkn (by decide); have hwk : IntKind.i64.wrap 3 = 3 := IntWalk.i64_in _ (by have := HX.out; omega); have hlk := (hb.fills h1).look 3 HX.out.1 HX.out.2 true; rw [HKV.out.1, HKV.out.2, if_pos rfl] at hlk; clear hb
        refine ⟨?_⟩
        simp only [fill]
        go_simp
        first | exact ⟨KeepsF.refl _, rfl⟩ | exact ⟨KeepsF.of (Keeps.alloc _ _), rfl⟩
       simp only [addEnt]
       apply loose_is
       ·intro W vals hW hkn
        clear hkn
        have hWF := Lib.hid hW
        replace hW := KeepsF.keeps hW
        refine ⟨?_⟩
        simp only [fill]
        go_simp
        first | exact ⟨KeepsF.refl _, rfl⟩ | exact ⟨KeepsF.of (Keeps.alloc _ _), rfl⟩
       simp only [addEnt]
       apply loose_is
       ·intro W vals hW hkn
        clear hkn
        have hWF := Lib.hid hW
        replace hW := KeepsF.keeps hW
        refine ⟨?_⟩
        simp only [fill]
        go_simp
        first | exact ⟨KeepsF.refl _, rfl⟩ | exact ⟨KeepsF.of (Keeps.alloc _ _), rfl⟩
       simp only [addEnt]
       apply loose_is
       ·intro W vals hW hkn
        clear hkn
        have hWF := Lib.hid hW
        replace hW := KeepsF.keeps hW
        refine ⟨?_⟩
        simp only [fill]
        go_simp
        first | exact ⟨KeepsF.refl _, rfl⟩ | exact ⟨KeepsF.of (Keeps.alloc _ _), rfl⟩
       simp only [addEnt]
       refine loose_has (fun v W => ∃ b, v = .pointer (some ⟨b, 0, none⟩) ∧ wr.heap.size ≤ b ∧ (W.heap[b]? = some kO1 ∨ W.heap[b]? = some (kO2 (kFn 120) (kFn 121) (kFn 123) (kFn 124)))) (fun W vals hW hkn φ' hφ => ?_) ?_
       ·simp only [knows] at hkn
        try simp only [and_true] at hkn
        have hWF := Lib.hid hW
        replace hW := KeepsF.keeps hW
        clear hkn
        refine ⟨?_⟩
        simp only [fill]
        go_simp
        exact loosef_value hφ (.of (Keeps.alloc _ _)) ⟨_, rfl, hW.size, .inl (heap_alloc_new _ _)⟩
       simp only [addEnt]
       refine loose_had [4] (fun rd _ W => ∃ b, rd = [.pointer (some ⟨b, 0, none⟩)] ∧ W.heap[b]? = some (kO2 (kFn 120) (kFn 121) (kFn 123) (kFn 124))) (by kernel_rfl) (fun W vals hW hkn φ' hφ => ?_) ?_
       ·simp only [knows] at hkn
        try simp only [and_true] at hkn
        have hWF := Lib.hid hW
        replace hW := KeepsF.keeps hW
        obtain ⟨W1, h0, h1, b3, hv3, hb3, ho⟩ := hkn.1 (by decide); replace ho := h1.slot ho; obtain ⟨v1, v2, v3, v4, d1, d2, d3, d4, fr⟩ := kCell ho; have HQ := Lib.hid (kFill hb3 ho); have g0 := fr 0; have g1 := fr 1; have g2 := fr 2; have g3 := fr 3; clear fr ho
        refine ⟨?_⟩
        simp only [fill]
        go_simp
        exact ⟨HQ.out.1, hφ.out _ _ ⟨_, by simp [hv3], HQ.out.2⟩⟩
       simp only [addEnt]
       apply loose_is
       ·intro W vals hW hkn
        clear hkn
        have hWF := Lib.hid hW
        replace hW := KeepsF.keeps hW
        refine ⟨?_⟩
        simp only [fill]
        go_simp
        first | exact ⟨KeepsF.refl _, rfl⟩ | exact ⟨KeepsF.of (Keeps.alloc _ _), rfl⟩
       simp only [addEnt]
       refine loose_nil (fun W vals hW hkn => ?_)
       simp only [knowsAll] at hkn
       try simp only [and_true] at hkn
       simp only [fill, Act.put, List.setIfInBounds_toArray, List.set_cons_succ, List.set_cons_zero]
       obtain ⟨⟨_, W1, h0, h1, b5, hv5, ho⟩, _⟩ := hkn
       obtain hv5 : vals 4 = .pointer (some ⟨b5, 0, none⟩) := by simpa using hv5
       rw [hv5]
       have HW := Lib.hid (And.intro hW.keeps (show Row W b5 114 #[kFn 120, kFn 121, kFn 123, kFn 124] from h1.full ho))
       clear hW h0 h1 ho hv5 M1
       generalize vals 14 = v14
       have hrB := HH.out.2.1.keeps HW.out.1
       have c0 := hrB.cell 0
       have f0 := hrB.frozen 0
       simp only [List.getElem?_toArray, List.getElem?_cons_zero, strV] at c0
       have HB2 := Lib.hid (hrB.store 0 (strV r))
       clear hrB
       go_wp2_with (go_at_call 85; refine (kMust_yes _).mono ?_; rintro e w' ⟨rfl, rfl⟩)
       obtain ⟨W2, hW2⟩ : ∃ W', W.setCell ⟨B, 0, none⟩ (.string ⟨r.toArray⟩) = W' := ⟨_, rfl⟩
       have hk2 : Keeps W W2 [B] := by rw [← hW2]; exact Keeps.setCell _ _ _
       have HB3 := Lib.hid (show Row W2 B 9 #[strV r] by rw [← hW2]; simpa [strV] using HB2.out)
       rw [hW2]
       clear hW2 HB2 c0 f0
       have HV := Lib.hid (ownP_keep (HH.out.1) ((HW.out.1.weaken (T := [B]) (by simp)).trans hk2 (fun _ h _ => h)) (fun g hg => by
        have n1 := ownP_ne HH.out.1 HH.out.2.1 (by decide)
        rw [hg] at n1
        simpa using n1))
       have q1 := (HH.out.2.2.1.keeps HW.out.1).keep hk2 (by simp)
       have q2 := (HH.out.2.2.2.1.keeps HW.out.1).keep hk2 (by simp; omega)
       have q5 := HW.out.2.keep hk2 (by
        have := HW.out.2.ne_type (HH.out.2.1.keeps HW.out.1) (by decide)
        simpa using this)
       have hbB : b5 ≠ B := HW.out.2.ne_type (HH.out.2.1.keeps HW.out.1) (by decide)
       have HK2 := Lib.hid (((HH.out.2.2.2.2.trans HW.out.1 (T := []) (S := []) (by simp)).weaken (T := [B]) (by simp)).trans hk2 (fun _ h _ => h))
       have HQ := Lib.hid (And.intro q1 (And.intro q2 q5))
       have HMM := Lib.hid (show r.length ≤ 1000000 by simp only [List.length_cons] at hlen; omega)
       rcases hrd : kRd 3 r with _ | ⟨p, t⟩
       ·have N1 := fun (W' : World) (hW' : Keeps W2 W' []) => (q1.keep hW' (by simp)).cell 0
        have N5 := fun (W' : World) (hW' : Keeps W2 W' []) => (q5.keep hW' (by simp)).cell 2
        simp only [List.getElem?_toArray, List.getElem?_cons_zero, List.getElem?_cons_succ] at N1 N5
        have HRD := Lib.hid hrd
        clear hrd q1 q2 q5 hk2 hbB
        refine wp_region_dies _ 3 _ rfl (by kernel_rfl) rfl (by kernel_rfl) ?_
        simp only [List.take_succ_cons, List.take_zero]
        apply loose_is
        ·intro W vals hW hkn
         clear hkn
         refine ⟨?_⟩
         simp only [fill]
         go_simp
         first | exact ⟨Keeps.refl _ _, rfl⟩ | exact ⟨Keeps.alloc _ _, rfl⟩
        simp only [addEnt]
        apply loose_is
        ·intro W vals hW hkn
         clear hkn
         refine ⟨?_⟩
         simp only [fill]
         go_simp
         first | exact ⟨Keeps.refl _ _, rfl⟩ | exact ⟨Keeps.alloc _ _, rfl⟩
        simp only [addEnt]
        apply loose_is
        ·intro W vals hW hkn
         clear hkn
         refine ⟨?_⟩
         simp only [fill]
         go_simp
         first | exact ⟨Keeps.refl _ _, rfl⟩ | exact ⟨Keeps.alloc _ _, rfl⟩
        simp only [addEnt]
        refine loose_nil (fun W' vals hW hkn => ?_)
        clear hkn
        simp only [fill, Act.put, List.setIfInBounds_toArray, List.set_cons_succ, List.set_cons_zero]
        refine ⟨rfl, 123, #[.pointer (some ⟨B, 0, none⟩)], W', by go_simp, ?_⟩
        refine (kRd_3 W' B r (HB3.out.keeps hW) HMM.out).mono ?_
        rw [HRD.out]
        rintro e w3 ⟨hk3, rfl⟩
        refine ⟨_, rfl, fun a' hd' ht' => ?_⟩
        obtain ⟨t', d'⟩ := a'
        simp only at hd'
        subst hd'
        have t2 := ht' 2 (off_all (by kernel_rfl))
        have t3 := ht' 3 (off_all (by kernel_rfl))
        simp only [Exit.inBlock, Exit.then]
        refine kParse_dies w3 t' (B + 1) (B + 1 + 1) v (.int .i64 0) (by rw [Array.getD_eq_getD_getElem?, t2]; rfl) (by rw [Array.getD_eq_getD_getElem?, t3]; rfl) ((HQ.out.1.keeps hW).keep hk3 (by simp)) ((HQ.out.2.1.keeps hW).keep hk3 (by simp; omega)) _ fun W'' hk4 => ⟨?_, .inr ⟨fun ⟨_, l', hp, _⟩ => ?_, rfl⟩⟩
        ·have hwB := HB.out
         have k1 := ((HK2.out.trans hW (T := []) (S := [B]) (by simp)).trans hk3 (fun _ h _ => h)).weaken (T := []) (fun x hx hlt => by simp at hx; omega)
         exact k1.trans hk4 (fun x hx hlt => by simp at hx; omega)
        ·rw [HE.out, kPar_none (b := 3) (l := r) (fun _ => HRD.out)] at hp
         cases hp
       ·have HRD := Lib.hid hrd
        have N1 := fun (W' : World) (hW' : Keeps W2 W' [B]) => (q1.keep hW' (by simp)).cell 0
        have N5 := fun (W' : World) (hW' : Keeps W2 W' [B]) => (q5.keep hW' (by simpa using hbB)).cell 2
        simp only [List.getElem?_toArray, List.getElem?_cons_zero, List.getElem?_cons_succ] at N1 N5
        clear hrd q1 q2 q5 hk2 hbB
        obtain ⟨pk, pn, pf, ps⟩ := p
        refine wp_region_but B 28 _ 5 (by kernel_rfl) rfl (by kernel_rfl) ?_
        simp only [List.take_succ_cons, List.take_zero, List.drop_succ_cons, List.drop_zero]
        apply looses_is _ rfl
        ·intro W vals hW hkn
         clear hkn
         refine ⟨?_⟩
         simp only [fill]
         go_simp
         first | exact ⟨Keeps.refl _ _, rfl⟩ | exact ⟨Keeps.alloc _ _, rfl⟩
        simp only [addEnt]
        apply looses_is _ rfl
        ·intro W vals hW hkn
         clear hkn
         refine ⟨?_⟩
         simp only [fill]
         go_simp
         first | exact ⟨Keeps.refl _ _, rfl⟩ | exact ⟨Keeps.alloc _ _, rfl⟩
        simp only [addEnt]
        apply looses_is _ rfl
        ·intro W vals hW hkn
         clear hkn
         refine ⟨?_⟩
         simp only [fill]
         go_simp
         first | exact ⟨Keeps.refl _ _, rfl⟩ | exact ⟨Keeps.alloc _ _, rfl⟩
        simp only [addEnt]
        refine looses_at (fun v W' => v = kpV ⟨pk, pn, pf, ps⟩ ∧ Row W' B 9 #[strV t]) rfl (fun W' vals hW hkn φ' hφ => ?_) ?_
        ·simp only [knowsS] at hkn
         try simp only [and_true] at hkn
         clear hkn
         refine ⟨?_⟩
         simp only [fill]
         go_simp
         ((with_reducible refine looseUponS_has hφ ?_); refine (kRd_3 W' B r (HB3.out.keeps hW) HMM.out).mono ?_; rw [HRD.out]; rintro e w3 ⟨hk3, rfl, hr3⟩; exact ⟨_, rfl, hk3, rfl, hr3⟩)
        simp only [addEnt]
        refine looses_has (fun v W' => ∃ g, v = .slice (some ⟨g, 0, none⟩) 1 1 ∧ W2.heap.size ≤ g ∧ Row W' g 63 #[.int .i64 pk, .int .i64 pn, .float .f64 pf, strV ps]) rfl (fun W' vals hW hkn φ' hφ => ?_) ?_
        ·simp only [knowsS] at hkn
         try simp only [and_true] at hkn
         obtain ⟨W1, h0, h1, hv, _⟩ := hkn (by decide); simp only [kpV] at hv
         refine ⟨?_⟩
         simp only [fill]
         go_simp
         exact looseUpon_value hφ (Keeps.alloc _ _) ⟨_, rfl, hW.size, Row.new _ _ _⟩
        simp only [addEnt]
        refine looses_nil (fun W9 vals hW hkn => ?_)
        simp only [knowsAllS] at hkn
        try simp only [and_true] at hkn
        simp only [fill, Act.put, List.setIfInBounds_toArray, List.set_cons_succ, List.set_cons_zero]
        obtain ⟨⟨W1, h0, h1, g, hv, hgl, hg⟩, W4, h4, h5, hv4, hr4⟩ := hkn
        have h1 : Keeps W1 W9 [B] := by simpa [relS] using h1
        have h5 : Keeps W4 W9 [] := by simpa [relS] using h5
        have hBl := HB3.out.lt
        have hg9 := hg.keep h1 (by simp; omega)
        have HK9 := Lib.hid (HK2.out.trans hW (fun _ h _ => h))
        have HV9 := Lib.hid (ownP_keep HV.out hW (fun g' hg' => by
         have n1 := ownP_ne HV.out HB3.out (by decide)
         rw [hg'] at n1
         simpa using n1))
        have H9 := Lib.hid (And.intro (hr4.keeps h5) (And.intro (HQ.out.1.keep hW (by simp)) (HQ.out.2.1.keep hW (by simp; omega))))
        have HG := Lib.hid (show ∀ (j : Nat) u, (kpCells ⟨pk, pn, pf, ps⟩)[j]? = some u → W9.cell? ((⟨g, 0, none⟩ : Addr).add j) = some u from fun j u hu => by
         have hc := hg9.cell j
         have : W9.cell? ((⟨g, 0, none⟩ : Addr).add j) = W9.cell? ⟨g, j, none⟩ := by
          unfold Addr.add
          split
          ·rename_i h0; subst h0; rfl
          ·simp
         rw [this, hc, ← hu]
         simp [kpCells])
        have HL9 := Lib.hid hW.size
        rw [hv]
        clear hv hv4 h0 h1 h4 h5 hr4 hg hg9 hW N1 N5
        generalize vals 28 = v28
        obtain ⟨i0, hi, hz0, hz1, hz2⟩ := info_parts infoPart
        have hal : acc.length ≤ 48 := by simp only [List.length_cons] at hlen; omega
        have hsz9 : B ≤ W9.heap.size := by have := HL9.out; omega
        refine wpList_append_own_at W9 rfl (.tmp 25) (.tmp 29) 59 rfl B 63 i0 (.agg #[.int .i64 0, .int .i64 0, .float .f64 0, .string ⟨#[]⟩]) 4 40 undParts hi hz0 hz1 hz2 rfl (by decide) v acc.length (kFlat acc) rfl HV9.out ⟨g, 0, none⟩ 1 1 (kpCells ⟨pk, pn, pf, ps⟩) rfl rfl HG.out (by simp [kpCells, Value.oneCell', strV]) (by simp [maxLen]; omega) (by omega) hsz9 ?_
        intro v' w5 hown hgrow _ hbl
        have hown : OwnedP w5 B v' (acc ++ [⟨pk, pn, pf, ps⟩]) := by
         unfold OwnedP
         rw [List.length_append, show kFlat (acc ++ [⟨pk, pn, pf, ps⟩]) = kFlat acc ++ kpCells ⟨pk, pn, pf, ps⟩ by simp [kFlat]]
         exact hown
        obtain ⟨A', c', rfl, _⟩ := ownP_slice hown
        have n1 := ownP_ne HV9.out H9.out.1 (by decide)
        have n2 := ownP_ne HV9.out H9.out.2.1 (by decide)
        have n3 := ownP_ne HV9.out H9.out.2.2 (by decide)
        have hk5 := Keeps.of_grown hgrow
        have o1 := H9.out.1.keep hk5 (by simpa using n1)
        have o2 := H9.out.2.1.keep hk5 (by simpa using n2)
        have o3 := H9.out.2.2.keep hk5 (by simpa using n3)
        have c1 := o2.cell 0
        have f1 := o2.frozen 0
        simp only [List.getElem?_toArray, List.getElem?_cons_zero] at c1
        have H5 := Lib.hid (And.intro hown (And.intro hk5 (And.intro o1 (And.intro o2 o3))))
        have HNB := Lib.hid (show ∀ x, v.ownBlock = some x → B ≤ x from fun x hx => (HV9.out.lt x hx).1)
        clear hown hgrow hbl n1 n2 n3 hk5 o1 o2 o3 hz hal hsz9 hBl hgl
        go_wp2_with fail
        have hle := kRd_len HRD.out
        go_roundg t.length
        case measure => simp only [List.length_cons] at hg; omega
        case rel =>
         have hkc : Keeps w5 (w5.setCell ⟨B + 1, 0, none⟩ (.slice A' (acc.length + 1) c')) [B + 1] := Keeps.setCell _ _ _
         have hown : OwnedP w5 B (.slice A' (acc.length + 1) c') (acc ++ [⟨pk, pn, pf, ps⟩]) := by have := H5.out.1; rw [List.length_append] at this; exact this
         have m1 := ownP_ne hown H5.out.2.2.2.1 (by decide)
         refine ⟨acc ++ [⟨pk, pn, pf, ps⟩], t, .slice A' (acc.length + 1) c', Lib.hid ?_, ownP_keep hown hkc (fun g' hg' => by rw [hg'] at m1; simpa using m1), H5.out.2.2.1.keep hkc (by simp), ?_, H5.out.2.2.2.2.keep hkc (by simp), ?_, Nat.le_refl _, ?_, Lib.hid ?_⟩
         ·rw [HE.out, kPar_step (b := 3) (l := r) (by rw [show ((3 : UInt8).toNat : Int) = 3 from rfl]; exact HKV.out.2) HRD.out]
          cases kPar t <;> simp
         ·have := H5.out.2.2.2.1.store 0 (.slice A' (acc.length + 1) c')
          simpa using this
         ·have hwB := HB.out
          have k1 := HK9.out.weaken (T := []) (fun x hx hlt => by simp at hx; omega)
          have k2 := k1.trans H5.out.2.1 (fun x hx hlt => by have := HNB.out x (by simpa using hx); omega)
          exact k2.trans hkc (fun x hx hlt => by simp at hx; omega)
         ·simp only [List.length_append, List.length_cons, List.length_nil] at hlen ⊢; omega
         ·intro q hq
          rcases List.mem_append.1 hq with hq | hq
          ·exact HOK.out q hq
          ·obtain rfl : q = ⟨pk, pn, pf, ps⟩ := by simpa using hq
           exact ⟨hle.2.2, by have := hle.2.1; simp only [List.length_cons] at hlen; omega⟩
      ·have hki : (x.toNat : Int) ≠ 1 ∧ (x.toNat : Int) ≠ 2 ∧ (x.toNat : Int) ≠ 3 := by
        refine ⟨fun h => h1 (UInt8.toNat_inj.1 (show x.toNat = 1 by omega)), fun h => h2 (UInt8.toNat_inj.1 (show x.toNat = 2 by omega)), fun h => h3 (UInt8.toNat_inj.1 (show x.toNat = 3 by omega))⟩
       clear h1 h2 h3
       have hkv : kOfKind (x.toNat : Int) = .agg #[.nilFunc, .nilFunc, .nilFunc, .nilFunc] ∧ kIs (x.toNat : Int) = false := by
        unfold kOfKind kIs
        first | exact ⟨rfl, rfl⟩ | simp [hki, kNone]
       have HKV := Lib.hid hkv
       clear hkv
       refine wp_region_fills (kO1) (kO2 (.nilFunc) (.nilFunc) (.nilFunc) (.nilFunc)) _ (by kernel_rfl) rfl (by kernel_rfl) ?_
       refine loose_has (fun v W => ∃ b, v = .map (some b) ∧ Kinds W b) (fun W vals hW hkn φ' hφ => ?_) ?_
       ·simp only [knows] at hkn
        try simp only [and_true] at hkn
        have hWF := Lib.hid hW
        replace hW := KeepsF.keeps hW
        clear hkn
        refine ⟨?_⟩
        simp only [fill]
        go_simp
        (with_reducible refine loosef_has hφ ?_; refine (kKinds_any W).mono ?_; rintro e w2 ⟨b, rfl, h1, h2⟩; exact ⟨_, rfl, h2, b, rfl, h1⟩)
       simp only [addEnt]
       apply loose_is
       ·intro W vals hW hkn
        clear hkn
        have hWF := Lib.hid hW
        replace hW := KeepsF.keeps hW
        refine ⟨?_⟩
        simp only [fill]
        go_simp
        first | exact ⟨KeepsF.refl _, rfl⟩ | exact ⟨KeepsF.of (Keeps.alloc _ _), rfl⟩
       simp only [addEnt]
       apply loose_is
       ·intro W vals hW hkn
        clear hkn
        have hWF := Lib.hid hW
        replace hW := KeepsF.keeps hW
        refine ⟨?_⟩
        simp only [fill]
        go_simp
        first | exact ⟨KeepsF.refl _, rfl⟩ | exact ⟨KeepsF.of (Keeps.alloc _ _), rfl⟩
       simp only [addEnt]
       apply loose_is
       ·intro W vals hW hkn
        clear hkn
        have hWF := Lib.hid hW
        replace hW := KeepsF.keeps hW
        refine ⟨?_⟩
        simp only [fill]
        go_simp
        first | exact ⟨KeepsF.refl _, rfl⟩ | exact ⟨KeepsF.of (Keeps.alloc _ _), rfl⟩
       simp only [addEnt]
       apply loose_is
       ·intro W vals hW hkn
        simp only [knows] at hkn
        try simp only [and_true] at hkn
        have hWF := Lib.hid hW
        replace hW := KeepsF.keeps hW
        obtain ⟨W1, h0, h1, b2, hv, hb⟩ := hkn (by decide); have hwk : IntKind.i64.wrap (x.toNat : Int) = (x.toNat : Int) := IntWalk.i64_in _ (by have := HX.out; omega); have hlk := (hb.fills h1).look (x.toNat : Int) HX.out.1 HX.out.2 true; rw [HKV.out.1, HKV.out.2, if_pos rfl] at hlk; clear hb
        refine ⟨?_⟩
        simp only [fill]
        go_simp
        first | exact ⟨KeepsF.refl _, rfl⟩ | exact ⟨KeepsF.of (Keeps.alloc _ _), rfl⟩
       simp only [addEnt]
       apply loose_is
       ·intro W vals hW hkn
        clear hkn
        have hWF := Lib.hid hW
        replace hW := KeepsF.keeps hW
        refine ⟨?_⟩
        simp only [fill]
        go_simp
        first | exact ⟨KeepsF.refl _, rfl⟩ | exact ⟨KeepsF.of (Keeps.alloc _ _), rfl⟩
       simp only [addEnt]
       apply loose_is
       ·intro W vals hW hkn
        clear hkn
        have hWF := Lib.hid hW
        replace hW := KeepsF.keeps hW
        refine ⟨?_⟩
        simp only [fill]
        go_simp
        first | exact ⟨KeepsF.refl _, rfl⟩ | exact ⟨KeepsF.of (Keeps.alloc _ _), rfl⟩
       simp only [addEnt]
       apply loose_is
       ·intro W vals hW hkn
        clear hkn
        have hWF := Lib.hid hW
        replace hW := KeepsF.keeps hW
        refine ⟨?_⟩
        simp only [fill]
        go_simp
        first | exact ⟨KeepsF.refl _, rfl⟩ | exact ⟨KeepsF.of (Keeps.alloc _ _), rfl⟩
       simp only [addEnt]
       refine loose_has (fun v W => ∃ b, v = .pointer (some ⟨b, 0, none⟩) ∧ wr.heap.size ≤ b ∧ (W.heap[b]? = some kO1 ∨ W.heap[b]? = some (kO2 (.nilFunc) (.nilFunc) (.nilFunc) (.nilFunc)))) (fun W vals hW hkn φ' hφ => ?_) ?_
       ·simp only [knows] at hkn
        try simp only [and_true] at hkn
        have hWF := Lib.hid hW
        replace hW := KeepsF.keeps hW
        clear hkn
        refine ⟨?_⟩
        simp only [fill]
        go_simp
        exact loosef_value hφ (.of (Keeps.alloc _ _)) ⟨_, rfl, hW.size, .inl (heap_alloc_new _ _)⟩
       simp only [addEnt]
       refine loose_had [4] (fun rd _ W => ∃ b, rd = [.pointer (some ⟨b, 0, none⟩)] ∧ W.heap[b]? = some (kO2 (.nilFunc) (.nilFunc) (.nilFunc) (.nilFunc))) (by kernel_rfl) (fun W vals hW hkn φ' hφ => ?_) ?_
       ·simp only [knows] at hkn
        try simp only [and_true] at hkn
        have hWF := Lib.hid hW
        replace hW := KeepsF.keeps hW
        obtain ⟨W1, h0, h1, b3, hv3, hb3, ho⟩ := hkn.1 (by decide); replace ho := h1.slot ho; obtain ⟨v1, v2, v3, v4, d1, d2, d3, d4, fr⟩ := kCell ho; have HQ := Lib.hid (kFill hb3 ho); have g0 := fr 0; have g1 := fr 1; have g2 := fr 2; have g3 := fr 3; clear fr ho
        refine ⟨?_⟩
        simp only [fill]
        go_simp
        exact ⟨HQ.out.1, hφ.out _ _ ⟨_, by simp [hv3], HQ.out.2⟩⟩
       simp only [addEnt]
       apply loose_is
       ·intro W vals hW hkn
        clear hkn
        have hWF := Lib.hid hW
        replace hW := KeepsF.keeps hW
        refine ⟨?_⟩
        simp only [fill]
        go_simp
        first | exact ⟨KeepsF.refl _, rfl⟩ | exact ⟨KeepsF.of (Keeps.alloc _ _), rfl⟩
       simp only [addEnt]
       refine loose_nil (fun W vals hW hkn => ?_)
       simp only [knowsAll] at hkn
       try simp only [and_true] at hkn
       simp only [fill, Act.put, List.setIfInBounds_toArray, List.set_cons_succ, List.set_cons_zero]
       obtain ⟨⟨_, W1, h0, h1, b5, hv5, ho⟩, _⟩ := hkn
       obtain hv5 : vals 4 = .pointer (some ⟨b5, 0, none⟩) := by simpa using hv5
       rw [hv5]
       have HW := Lib.hid (And.intro hW.keeps (show Row W b5 114 #[.nilFunc, .nilFunc, .nilFunc, .nilFunc] from h1.full ho))
       clear hW h0 h1 ho hv5 M1
       generalize vals 14 = v14
       clear hki
       go_wp2_with (go_at_call 85; refine (kMust_no _).mono ?_; rintro e w' ⟨rfl, rfl⟩)
       refine kParse_dies _ _ (B + 1) (B + 1 + 1) v (.int .i64 0) rfl rfl (HH.out.2.2.1.keeps HW.out.1) (HH.out.2.2.2.1.keeps HW.out.1) _ fun W' hk => ⟨?_, .inr ⟨fun ⟨_, l', hp, _⟩ => ?_, rfl⟩⟩
       ·exact (HH.out.2.2.2.2.trans HW.out.1 (by simp)).trans hk (fun x hx hlt => by have := HB.out; simp at hx; omega)
       ·rw [HE.out, kPar_none (fun h => by rw [HKV.out.2] at h; cases h)] at hp
        cases hp
 ·have hd : decide ((s.length : Int) ≤ 48) = false := by simp; omega
  go_enter_defers Tryz.func38, Tryz.ntmps38
  go_wp2_with (go_at_call 85; refine (kMust_no _).mono ?_; rintro e w' ⟨rfl, rfl⟩)
  refine kParse_dies _ _ (w.heap.size + 1) (w.heap.size + 1 + 1) (.slice none 0 0) (.int .i64 0) rfl rfl ?_ ?_ _ fun W' hk => ⟨?_, .inr ⟨fun h => h48 h.1, rfl⟩⟩
  ·have := (Row.new (w.alloc (.cells #[.string ⟨s.toArray⟩] 9)) 59 #[.slice none 0 0]).alloc (.cells #[.int .i64 0] 29)
   rw [show (w.alloc (.cells #[.string ⟨s.toArray⟩] 9)).heap.size = w.heap.size + 1 by simp] at this
   exact this
  ·have := Row.new ((w.alloc (.cells #[.string ⟨s.toArray⟩] 9)).alloc (.cells #[.slice none 0 0] 59)) 29 #[.int .i64 0]
   rw [show ((w.alloc (.cells #[.string ⟨s.toArray⟩] 9)).alloc (.cells #[.slice none 0 0] 59)).heap.size = w.heap.size + 1 + 1 by simp] at this
   exact this
  ·exact (((Keeps.alloc _ _).trans (Keeps.alloc _ _) (by simp)).trans (Keeps.alloc _ _) (by simp)).trans hk (fun x hx hlt => by simp at hx; omega)
end Go.Proofs.YtfglgeoookbppaaGreatDoor
