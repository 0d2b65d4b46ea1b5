/- Package topic: Meets. Package topic: within. Package topic: all of some texts, by Filter. -/
import Derived.Test.YtbjoobanbejgbaaDoorPa24
import Derived.Test.YtbjoobanbejgbaaDoorPa26

namespace Go.Proofs.YtbjoobanbejgbaaDoor
open Go.RowKit Go.Shelf

attribute [local go_sem] Oper.semAt_some

/-- What a function of a truth and a code answers. -/
def PairPost (w : World) (B : Bool) (c : Int) (e : Ending) (w' : World) : Prop := e = .returned (.tuple #[.bool B, .int .i64 c]) ∧ Keeps w w' []
/-- What Meets answers. -/
def mtB (f n : List UInt8) : Bool := tFilter f && tName n && tMeets f n
def mtC (f n : List UInt8) : Int := if (tFilter f && tName n) = true then 0 else 230
theorem tFilter_any (w : World) (s : List UInt8) (hs : s.length ≤ 50000) (hm : MaxL w) : Calls Tryd.prog 16 #[.string ⟨s.toArray⟩] w (TruePost w (tFilter s)) :=
  callsIn_wide.1 (tFilter_in 4 (by omega) w s hs hm)
/-- The two cells of what is answered. -/
structure ResAt (w W : World) (b : Bool) (c : Int) : Prop where
  r0 : Row W w.heap.size 4 #[.bool b]
  r1 : Row W (w.heap.size + 1) 23 #[.int .i64 c]
  k : Keeps w W []
theorem ResAt.keeps {w W W' : World} {b : Bool} {c : Int} (h : ResAt w W b c) (hk : Keeps W W' []) : ResAt w W' b c := ⟨h.r0.keeps hk, h.r1.keeps hk, h.k.then_ hk⟩
theorem meets_door {n D : Nat} {w W9 : World} {t : Array Value} {B : Bool} {c : Int} (h4 : t.getD 4 undef = .pointer (some ⟨w.heap.size, 0, none⟩)) (h5 : t.getD 5 undef = .pointer (some ⟨w.heap.size + 1, 0, none⟩)) (q0 : Row W9 w.heap.size 4 #[.bool B]) (q1 : Row W9 (w.heap.size + 1) 23 #[.int .i64 c]) (hD : w.heap.size + 1 < D) (_hwD : w.heap.size ≤ D) (hK : W9.heap[D]? = some (.deferred (some []))) (hk : Keeps w W9 []) :
    bodyPostM Fence.wide n Tryd.prog Tryd.f9 (PairPost w B c) Exit.ret { tmps := t, defers := [{ target := .collected D, args := #[] }] } W9 := by
  refine ⟨by simp, .inl ⟨_, _, rfl, run_takeDeferred hK, ?_⟩⟩
  have kp : Keeps W9 (W9.putObj D (.deferred none)) [D] := Keeps.of_grown (grownBy_putObj' W9 D _)
  have z0 := (q0.keep kp (by simp; omega)).cell 0
  have z1 := (q1.keep kp (by simp; omega)).cell 0
  rw [Array.getD_eq_getD_getElem?] at h4 h5
  simp at z0 z1
  refine ⟨.tuple #[.bool B, .int .i64 c], ?_, rfl, hk.trans kp (fun y hy hlt => by simp at hy; omega)⟩
  simp [results, Tryd.results9, go_sem, h4, h5, z0, z1]
theorem mt_pre {L : List (List UInt8)} {pre : List Lvl} (h : pre.map (fun x => x.1) <+: tSeq L) : pre.map (fun x : Lvl => x.1.1) <+: L := by
  obtain ⟨t, ht⟩ := h
  refine ⟨t.map (fun x => x.1), ?_⟩
  have := congrArg (List.map fun x : List UInt8 × Bool => x.1) ht
  rw [List.map_append, List.map_map, tSeq_fst] at this
  exact this
/-- The levels of a name that are left. -/
def MtAt (_w W6 W : World) (cl bn : Nat) (N pre : List (List UInt8)) : Prop := ∃ r, mtRun pre N = some r ∧ (∃ A k, Row W cl 28 #[.slice A k k] ∧ k = r.length ∧ (0 < k → A = some ⟨bn, pre.length, none⟩)) ∧ Keeps W6 W [cl]
theorem MtAt.own {w W6 A B : World} {cl bn : Nat} {N pre : List (List UInt8)} {row : Option Nat} (h : MtAt w W6 A cl bn N pre) (hg : A.grownBy B row) (h1 : ∀ r, row = some r → r ≠ cl) (_h2 : ∀ r, row = some r → r ≠ bn) (h3 : ∀ r, row = some r → W6.heap.size ≤ r) : MtAt w W6 B cl bn N pre := by
  obtain ⟨r, h4, ⟨A', k, h5, h6⟩, h7⟩ := h
  exact ⟨r, h4, ⟨A', k, rowOwn h5 hg h1, h6⟩, h7.trans (Keeps.of_grown hg) (fun y hy hlt => by have := h3 y (by simpa using hy); omega)⟩
/-- All that is left is met. -/
def MtRest (_w W6 W : World) (cl : Nat) (N pre : List (List UInt8)) : Prop := (∃ qs r, pre = qs ++ [[35]] ∧ mtRun qs N = some r) ∧ Row W cl 28 #[.slice none 0 0] ∧ Keeps W6 W [cl]
theorem MtRest.own {w W6 A B : World} {cl : Nat} {N pre : List (List UInt8)} {row : Option Nat} (h : MtRest w W6 A cl N pre) (hg : A.grownBy B row) (h1 : ∀ r, row = some r → r ≠ cl) (h3 : ∀ r, row = some r → W6.heap.size ≤ r) : MtRest w W6 B cl N pre :=
  ⟨h.1, rowOwn h.2.1 hg h1, h.2.2.trans (Keeps.of_grown hg) (fun y hy hlt => by have := h3 y (by simpa using hy); omega)⟩
/-- A level does not meet. -/
def MtNo (w W6 W : World) (cl : Nat) (N pre : List (List UInt8)) : Prop := (∃ qs g r, pre = qs ++ [g] ∧ g ≠ [35] ∧ mtRun qs N = some r ∧ mtRun [g] r = none) ∧ Row W w.heap.size 4 #[.bool false] ∧ Row W (w.heap.size + 1) 23 #[.int .i64 0] ∧ Keeps W6 W [cl, w.heap.size, w.heap.size + 1]
theorem MtNo.own {w W6 A B : World} {cl : Nat} {N pre : List (List UInt8)} {row : Option Nat} (h : MtNo w W6 A cl N pre) (hg : A.grownBy B row) (h1 : ∀ r, row = some r → r ≠ w.heap.size ∧ r ≠ w.heap.size + 1) (h3 : ∀ r, row = some r → W6.heap.size ≤ r) : MtNo w W6 B cl N pre :=
  ⟨h.1, rowOwn h.2.1 hg (fun r e => (h1 r e).1), rowOwn h.2.2.1 hg (fun r e => (h1 r e).2), h.2.2.2.trans (Keeps.of_grown hg) (fun y hy hlt => by have := h3 y (by simpa using hy); omega)⟩
set_option maxRecDepth 100000 in
set_option maxHeartbeats 4000000 in
theorem tMeets_yes (n : Nat) (hn : 6 ≤ n) (w : World) (f m : List UInt8) (hf : f.length ≤ 50000) (hml : m.length ≤ 50000) (hm : MaxL w) (h1 : tFilter f = true) (h2 : tName m = true) (h3 : tStarts f m = true) : CallsIn Fence.wide n Tryd.prog 9 #[.string ⟨f.toArray⟩, .string ⟨m.toArray⟩] w (PairPost w (tMeetL (tLev f) (tLev m)) 0) := by
  have hn1 : 1 ≤ n := by omega
  have hro : Fence.wide.round = none := rfl
  obtain ⟨F, hF⟩ : ∃ S : ByteArray, (⟨f.toArray⟩ : ByteArray) = S := ⟨_, rfl⟩
  obtain ⟨M, hM⟩ : ∃ S : ByteArray, (⟨m.toArray⟩ : ByteArray) = S := ⟨_, rfl⟩
  have HS := Lib.hid (And.intro hF hM)
  have HX := Lib.hid hm
  rw [hF, hM]
  clear hF hM hm
  refine callsIn_of_wp_marks Tryd.func9 rfl trivial ?_ hro
  simp only [Tryd.ntmps9, List.size_toArray, List.length_cons, List.length_nil, Nat.reduceAdd, Nat.reduceSub, Array.replicate_succ, Array.replicate_zero, List.push_toArray, List.append_toArray, List.nil_append, List.cons_append]
  gi_wp2_with fail
  obtain ⟨W0, hW0⟩ : ∃ W0, (w.alloc (.cells #[.bool false] 4)).alloc (.cells #[.int .i64 0] 23) = W0 := ⟨_, rfl⟩
  have hA0 : ResAt w W0 false 0 := by
    rw [← hW0]
    refine ⟨(Row.new _ _ _).alloc _, ?_, (Keeps.alloc _ _).then_alloc _⟩
    have := Row.new (w.alloc (.cells #[.bool false] 4)) 23 #[.int .i64 0]
    rwa [World.size_alloc] at this
  rw [hW0]
  have s0 : W0.heap.size = w.heap.size + 2 := by rw [← hW0]; simp
  clear hW0
  refine wpIn_scope_straight ?_
  gi_wp2_with fail
  rw [← HS.out.1]
  refine ⟨trivial, (callsIn_of rfl (tFilter_any W0 f (by omega) (HX.out.keeps hA0.k))).mono ?_⟩
  rintro e w1 ⟨rfl, hk1⟩
  rw [HS.out.1]
  have H1 := Lib.hid (And.intro (hA0.keeps hk1) (show w.heap.size + 2 ≤ w1.heap.size by have := hk1.size; omega))
  clear hA0 hk1 s0
  rw [h1]
  gi_wp2_with fail
  rw [← HS.out.2]
  refine ⟨trivial, (callsIn_of rfl (tName_any w1 m (by omega))).mono ?_⟩
  rintro e w2 ⟨rfl, hk2⟩
  rw [HS.out.2, h2]
  have H2 := Lib.hid (And.intro (H1.out.1.keeps hk2) (show w.heap.size + 2 ≤ w2.heap.size by have := H1.out.2; have := hk2.size; omega))
  clear hk2
  gi_wp2_with fail
  rw [← HS.out.1, ← HS.out.2]
  refine ⟨trivial, (callsIn_of rfl (tStarts_any w2 f m)).mono ?_⟩
  rintro e w3 ⟨rfl, rfl⟩
  rw [HS.out.1, HS.out.2, h3]
  gi_wp2_with fail
  rw [← HS.out.2]
  refine ⟨trivial, (callsIn_of rfl (tLevels_any w2 m (by omega) (HX.out.keeps H2.out.1.k))).mono ?_⟩
  rintro e w3 ⟨rfl, rfl⟩
  rw [HS.out.2]
  obtain ⟨N, hN⟩ : ∃ L, tLev m = L := ⟨_, rfl⟩
  rw [hN]
  obtain ⟨W3, hW3⟩ : ∃ W3, w2.alloc (.cells (txC N) 9) = W3 := ⟨_, rfl⟩
  have r3 : Row W3 w2.heap.size 9 (txC N) := by rw [← hW3]; exact Row.new _ _ _
  have k3 : Keeps w2 W3 [] := by rw [← hW3]; exact Keeps.alloc _ _
  have s3 : W3.heap.size = w2.heap.size + 1 := by rw [← hW3]; simp
  rw [hW3]
  clear hW3
  have H3 := Lib.hid (And.intro r3 (And.intro k3 s3))
  clear r3 k3 s3
  gi_wp2_with fail
  obtain ⟨W4, hW4⟩ : ∃ W4, W3.alloc (.cells #[.slice (some ⟨w2.heap.size, 0, none⟩) N.length N.length] 28) = W4 := ⟨_, rfl⟩
  have r4 : Row W4 W3.heap.size 28 #[.slice (some ⟨w2.heap.size, 0, none⟩) N.length N.length] := by rw [← hW4]; exact Row.new _ _ _
  have k4 : Keeps W3 W4 [] := by rw [← hW4]; exact Keeps.alloc _ _
  have s4 : W4.heap.size = w2.heap.size + 2 := by rw [← hW4]; simp; have := H3.out.2.2; omega
  rw [hW4]
  have H4 := Lib.hid (show Row W4 w2.heap.size 9 (txC N) ∧ Row W4 W3.heap.size 28 #[.slice (some ⟨w2.heap.size, 0, none⟩) N.length N.length] ∧ ResAt w W4 false 0 ∧ W4.heap.size = w2.heap.size + 2 from ⟨H3.out.1.keeps k4, r4, (H2.out.1.keeps H3.out.2.1).keeps k4, s4⟩)
  clear hW4 r4 k4 s4
  apply wpIn_label
  gi_wp2_with fail
  rw [← HS.out.1]
  refine ⟨trivial, (callsIn_of rfl (tLevels_any W4 f (by omega) (HX.out.keeps H4.out.2.2.1.k))).mono ?_⟩
  rintro e w5 ⟨rfl, rfl⟩
  rw [HS.out.1]
  obtain ⟨L, hL⟩ : ∃ L, tLev f = L := ⟨_, rfl⟩
  have hLl : L.length ≤ 60000 := by rw [← hL]; have := tLev_len f; omega
  have hLx : ∀ x ∈ L, x.length ≤ 60000 := fun x hx => by rw [← hL] at hx; have := tLev_size hx; omega
  have hNl : N.length ≤ 60000 := by rw [← hN]; have := tLev_len m; omega
  rw [hL]
  obtain ⟨W5, hW5⟩ : ∃ W5, W4.alloc (.cells (txC L) 9) = W5 := ⟨_, rfl⟩
  have r5 : Row W5 W4.heap.size 9 (txC L) := by rw [← hW5]; exact Row.new _ _ _
  have k5 : Keeps W4 W5 [] := by rw [← hW5]; exact Keeps.alloc _ _
  have s5 : W5.heap.size = w2.heap.size + 3 := by rw [← hW5]; simp; have := H4.out.2.2.2; omega
  rw [hW5]
  clear hW5
  have H5 := Lib.hid (And.intro r5 (And.intro k5 s5))
  clear r5 k5 s5
  gi_wp2_with fail
  refine ⟨trivial, (tLevelsF_in _ _ trivial rfl _ _ _ W5).mono ?_⟩
  rintro e w6 ⟨rfl, rfl⟩
  obtain ⟨W6, hW6⟩ : ∃ W6, W5.alloc (.cells #[.slice (some ⟨W4.heap.size, 0, none⟩) L.length L.length] 28) = W6 := ⟨_, rfl⟩
  have r6 : Row W6 W5.heap.size 28 #[.slice (some ⟨W4.heap.size, 0, none⟩) L.length L.length] := by rw [← hW6]; exact Row.new _ _ _
  have k6 : Keeps W5 W6 [] := by rw [← hW6]; exact Keeps.alloc _ _
  have s6 : W6.heap.size = w2.heap.size + 4 := by rw [← hW6]; simp; have := H5.out.2.2; omega
  rw [hW6]
  have k46 := H5.out.2.1.then_ k6
  have HQ := Lib.hid (show Row W6 w2.heap.size 9 (txC N) ∧ Row W6 W3.heap.size 28 #[.slice (some ⟨w2.heap.size, 0, none⟩) N.length N.length] ∧ ResAt w W6 false 0 ∧ Row W6 W4.heap.size 9 (txC L) from
    ⟨H4.out.1.keeps k46, H4.out.2.1.keeps k46, H4.out.2.2.1.keeps k46, H5.out.1.keeps k6⟩)
  have HZ := Lib.hid (show w.heap.size + 2 ≤ w2.heap.size ∧ W3.heap.size = w2.heap.size + 1 ∧ W4.heap.size = w2.heap.size + 2 ∧ W5.heap.size = w2.heap.size + 3 ∧ W6.heap.size = w2.heap.size + 4 from ⟨H2.out.2, H3.out.2.2, H4.out.2.2.2, H5.out.2.2, s6⟩)
  have c6 := r6.cell 0
  simp only [List.getElem?_toArray, List.getElem?_cons_zero] at c6
  have HLN := Lib.hid (And.intro hL hN)
  clear hW6 r6 k6 s6 k46 H3 H4 H5 hL hN
  gi_wp2_with fail
  refine wpIn_rangeFunc_ownG hro hn1 (gf := 35) (lb := #[.pointer (some ⟨W5.heap.size, 0, none⟩)]) rfl trivial (enters_of Tryd.func35 (by kernel_rfl) rfl)
    (tLevels1_stops Fence.wide (n - 1) rfl trivial hro (by omega) W5.heap.size W4.heap.size W6.heap.size L hLl hLx W6 (Nat.le_refl _) [W3.heap.size, w.heap.size, w.heap.size + 1] ⟨by have := HZ.out; omega, by have := HZ.out; simp; omega⟩ ⟨by have := HZ.out; omega, by have := HZ.out; simp; omega⟩ c6 HQ.out.2.2.2) KpS.t (KpS.put (Nat.le_refl _)) (Below.refl _ _) (fun _ => rfl)
    (fun (pre : List Lvl) W => MtAt w W6 W W3.heap.size w2.heap.size N (pre.map fun x : Lvl => x.1.1))
    (fun c (pre : List Lvl) W => (c = .exit 0 ∧ MtRest w W6 W W3.heap.size N (pre.map fun x : Lvl => x.1.1)) ∨ (c = .ret ∧ MtNo w W6 W W3.heap.size N (pre.map fun x : Lvl => x.1.1)))
    (fun pre A B row hs hg hr => MtAt.own hs hg (fun r e => by have := (hr r e).1; have := HZ.out; omega) (fun r e => by have := (hr r e).1; have := HZ.out; omega) (fun r e => (hr r e).1))
    (fun c pre A B row hs hg hr => by
      rcases hs with ⟨h1, h2⟩ | ⟨h1, h2⟩
      · exact .inl ⟨h1, h2.own hg (fun r e => by have := (hr r e).1; have := HZ.out; omega) (fun r e => (hr r e).1)⟩
      · exact .inr ⟨h1, h2.own hg (fun r e => by have := (hr r e).1; have := HZ.out; omega) (fun r e => (hr r e).1)⟩)
    ⟨N, rfl, ⟨some ⟨w2.heap.size, 0, none⟩, N.length, HQ.out.2.1, rfl, fun _ => by simp⟩, Keeps.refl _ _⟩
    (fun x => { tmps := #[.string F, .string M, undef, undef, .pointer (some ⟨w.heap.size, 0, none⟩), .pointer (some ⟨w.heap.size + 1, 0, none⟩), .pointer (some ⟨W3.heap.size, 0, none⟩), .string ⟨x.1.1.toArray⟩, .string F, .bool true, .bool false, .bool false, .string M, .bool true, .bool false, .bool false, .string F, .string M, .bool true, .bool false, .string M, .slice (some ⟨w2.heap.size, 0, none⟩) N.length N.length, .string F, .slice (some ⟨W4.heap.size, 0, none⟩) L.length L.length, .func (.func 35) #[] #[.pointer (some ⟨W5.heap.size, 0, none⟩)], .string ⟨x.1.1.toArray⟩, .bool x.1.2, undef, undef, undef, undef, undef, undef, undef, undef, undef, undef, undef, undef, undef, undef, undef, undef, undef, undef, undef, undef, undef], defers := [] }) ?assign ?body ?done ?stop
  case assign =>
    intro l x W K hK
    unfold tArgs
    gi_wp2
    exact hK
  case body =>
    rintro l pre ⟨⟨x, lb⟩, hxl⟩ V ⟨r, hrun, ⟨A, k, hr, hk, hA⟩, hkeep⟩ hlt
    replace hxl : x.length ≤ 60000 := hxl
    dsimp only
    have hmap : (pre ++ [(⟨(x, lb), hxl⟩ : Lvl)]).map (fun x : Lvl => x.1.1) = pre.map (fun x : Lvl => x.1.1) ++ [x] := by simp
    obtain ⟨qs, hqs⟩ : ∃ qs, pre.map (fun x : Lvl => x.1.1) = qs := ⟨_, rfl⟩
    rw [hqs] at hrun hA hmap
    have HM := Lib.hid hmap
    have HR := Lib.hid (And.intro hrun (And.intro hr hkeep))
    have HW6 := Lib.hid (show W6.heap.size ≤ V.heap.size from hkeep.size)
    obtain ⟨X, hX⟩ : ∃ X : ByteArray, (⟨x.toArray⟩ : ByteArray) = X := ⟨_, rfl⟩
    have eX : X.toList = x := by rw [← hX, Lib.toList_data]
    have HXX := Lib.hid hX
    rw [hX]
    have c0 := hr.cell 0
    have f0 := hr.frozen 0
    simp only [List.getElem?_toArray, List.getElem?_cons_zero] at c0
    by_cases h35 : x = [35]
    · have e35 : (X.toList == [35]) = true := by rw [eX, h35]; rfl
      have H35 := Lib.hid h35
      clear hX eX hmap hqs hrun hr hkeep hA hk h35
      gi_wp2_with fail
      have kk : Keeps V (V.setCell ⟨W3.heap.size, 0, none⟩ (.slice none 0 0)) [W3.heap.size] := Keeps.setCell _ _ _
      refine ⟨⟨kk.size, fun i o hk0 hk _ => (kk.block i (Array.getElem?_eq_some_iff.1 hk).1 (by have := HZ.out; simp; omega)).trans hk⟩, .inl ⟨rfl, ⟨qs, r, by rw [HM.out, H35.out], HR.out.1⟩, HR.out.2.1.store 0 _, HR.out.2.2.trans kk (fun y hy _ => hy)⟩⟩
    · have e35 : (X.toList == [35]) = false := by rw [eX]; simpa using h35
      have H35 := Lib.hid h35
      clear hX eX hmap h35
      have M0 := fun (W' : World) (hW : Keeps V W' []) => (hr.keeps hW).cell 0
      simp only [List.getElem?_toArray, List.getElem?_cons_zero] at M0
      cases r with
      | nil =>
        have hk0 : k = 0 := hk
        subst hk0
        have HNO := Lib.hid (show mtRun [x] [] = none by rw [mtRun_cons, if_neg H35.out])
        clear hr hkeep hA hk hrun hqs
        gi_wp2_with fail
        refine wpIn_region_keeps rfl _ (by kernel_rfl) rfl (by kernel_rfl) (by kernel_rfl) ?_
        apply loose_is
        · intro W vals hW hkn
          clear hkn
          refine ⟨?_⟩
          simp only [fill]
          go_simp
          first | exact ⟨Keeps.refl _ _, rfl⟩ | exact ⟨Keeps.alloc _ _, rfl⟩
        simp only [addEnt]
        apply loose_is
        · intro W vals hW hkn
          clear hkn
          refine ⟨?_⟩
          simp only [fill]
          go_simp
          first | exact ⟨Keeps.refl _ _, rfl⟩ | exact ⟨Keeps.alloc _ _, rfl⟩
        simp only [addEnt]
        apply loose_is
        · intro W vals hW hkn
          clear hkn
          refine ⟨?_⟩
          simp only [fill]
          go_simp
          first | exact ⟨Keeps.refl _ _, rfl⟩ | exact ⟨Keeps.alloc _ _, rfl⟩
        simp only [addEnt]
        apply loose_is
        · intro W vals hW hkn
          clear hkn
          refine ⟨?_⟩
          simp only [fill]
          go_simp
          first | exact ⟨Keeps.refl _ _, rfl⟩ | exact ⟨Keeps.alloc _ _, rfl⟩
        simp only [addEnt]
        refine loose_off (fun vals => by kernel_rfl) ?_
        simp only [addEnt]
        refine loose_off (fun vals => by kernel_rfl) ?_
        simp only [addEnt]
        refine loose_off (fun vals => by kernel_rfl) ?_
        simp only [addEnt]
        refine loose_off (fun vals => by kernel_rfl) ?_
        simp only [addEnt]
        refine loose_off (fun vals => by kernel_rfl) ?_
        simp only [addEnt]
        refine loose_off (fun vals => by kernel_rfl) ?_
        simp only [addEnt]
        refine loose_off (fun vals => by kernel_rfl) ?_
        simp only [addEnt]
        apply loose_is
        · intro W vals hW hkn
          clear hkn
          refine ⟨?_⟩
          simp only [fill]
          go_simp
          first | exact ⟨Keeps.refl _ _, rfl⟩ | exact ⟨Keeps.alloc _ _, rfl⟩
        simp only [addEnt]
        apply loose_is
        · intro W vals hW hkn
          clear hkn
          refine ⟨?_⟩
          simp only [fill]
          go_simp
          first | exact ⟨Keeps.refl _ _, rfl⟩ | exact ⟨Keeps.alloc _ _, rfl⟩
        simp only [addEnt]
        refine loose_nil (fun W vals hW hkn => ?_)
        simp only [knowsAll] at hkn
        try simp only [and_true] at hkn
        simp only [fill, Act.put, List.setIfInBounds_toArray, List.set_cons_succ, List.set_cons_zero]
        clear hkn M0
        have HWW := Lib.hid (show Keeps V W [] from hW)
        have hrk : Keeps W6 W [W3.heap.size] := HR.out.2.2.trans HWW.out (by simp)
        have hrs := HQ.out.2.2.1
        have g0 := hrs.r0.keep hrk (by have := HZ.out; simp; omega)
        have g1 := hrs.r1.keep hrk (by have := HZ.out; simp; omega)
        have d0 := g0.cell 0
        have d1 := g1.cell 0
        have z0 := g0.frozen 0
        have z1 := g1.frozen 0
        simp only [List.getElem?_toArray, List.getElem?_cons_zero] at d0 d1
        have HG := Lib.hid (And.intro g0 (And.intro g1 hrk))
        clear hW hrk hrs g0 g1
        gi_wp2_with fail
        have kk : Keeps W ((W.setCell ⟨w.heap.size, 0, none⟩ (.bool false)).setCell ⟨w.heap.size + 1, 0, none⟩ (.int .i64 0)) [w.heap.size, w.heap.size + 1] := ((Keeps.setCell W ⟨w.heap.size, 0, none⟩ (.bool false)).weaken (T := [w.heap.size, w.heap.size + 1]) (by simp)).trans (Keeps.setCell _ _ _) (by simp)
        refine ⟨KeepsFrom.of_keepsS ((HWW.out.weaken (T := [w.heap.size, w.heap.size + 1]) (by simp)).trans kk (fun y hy _ => hy)) _ (by have := HZ.out; simp; omega), .inr ⟨rfl, ⟨qs, x, _, HM.out, H35.out, HR.out.1, HNO.out⟩, (HG.out.1.store 0 _).far (by simp) _, (HG.out.2.1.far (by simp) _).store 0 _, (HG.out.2.2.weaken (T := [W3.heap.size, w.heap.size, w.heap.size + 1]) (by simp)).trans kk (fun y hy _ => by simp at hy ⊢; omega)⟩⟩
      | cons y ns =>
        obtain ⟨hdr, hql⟩ := mtRun_drop hrun
        have hyl : qs.length < N.length := by
          rcases Nat.lt_or_ge qs.length N.length with h | h
          · exact h
          · rw [List.drop_eq_nil_of_le h] at hdr; cases hdr
        have hye : N[qs.length] = y := by
          rw [List.drop_eq_getElem_cons hyl] at hdr
          injection hdr with h1 h2
          exact h1.symm
        have hkl : k = ns.length + 1 := by rw [hk]; rfl
        have hns : ns.length ≤ 60000 := by
          have := congrArg List.length hdr
          rw [List.length_drop] at this
          simp at this
          omega
        obtain rfl : A = some ⟨w2.heap.size, qs.length, none⟩ := hA (by omega)
        have MN := fun (W' : World) (hW : Keeps V W' []) => by
          have h0 := (HQ.out.1.keep hkeep (by have := HZ.out; simp; omega)).keeps hW
          have h1 := h0.cell qs.length
          rw [txC_get hyl, hye] at h1
          exact h1
        obtain ⟨Y, hY⟩ : ∃ S : ByteArray, (⟨y.toArray⟩ : ByteArray) = S := ⟨_, rfl⟩
        rw [hY] at MN
        have HYY := Lib.hid hY
        subst hkl
        have hkp : ((ns.length : Int) + 1 == 0) = false := by simp; omega
        clear hr hkeep hA hk hrun hqs hdr hql hyl hye hY
        by_cases h43 : x = [43]
        · have H43 := Lib.hid h43
          have HMR := Lib.hid (show mtRun [x] (y :: ns) = some ns by rw [mtRun_one H35.out, if_pos (by rw [H43.out]; rfl)])
          clear h43
          gi_wp2_with fail
          refine wpIn_region_keeps rfl _ (by kernel_rfl) rfl (by kernel_rfl) (by kernel_rfl) ?_
          apply loose_is
          · intro W vals hW hkn
            clear hkn
            refine ⟨?_⟩
            simp only [fill]
            go_simp
            first | exact ⟨Keeps.refl _ _, rfl⟩ | exact ⟨Keeps.alloc _ _, rfl⟩
          simp only [addEnt]
          apply loose_is
          · intro W vals hW hkn
            clear hkn
            refine ⟨?_⟩
            simp only [fill]
            go_simp
            first | exact ⟨Keeps.refl _ _, rfl⟩ | exact ⟨Keeps.alloc _ _, rfl⟩
          simp only [addEnt]
          apply loose_is
          · intro W vals hW hkn
            clear hkn
            refine ⟨?_⟩
            simp only [fill]
            go_simp
            first | exact ⟨Keeps.refl _ _, rfl⟩ | exact ⟨Keeps.alloc _ _, rfl⟩
          simp only [addEnt]
          apply loose_is
          · intro W vals hW hkn
            clear hkn
            refine ⟨?_⟩
            simp only [fill]
            go_simp
            first | exact ⟨Keeps.refl _ _, rfl⟩ | exact ⟨Keeps.alloc _ _, rfl⟩
          simp only [addEnt]
          apply loose_is
          · intro W vals hW hkn
            clear hkn
            refine ⟨?_⟩
            simp only [fill]
            go_simp
            first | exact ⟨Keeps.refl _ _, rfl⟩ | exact ⟨Keeps.alloc _ _, rfl⟩
          simp only [addEnt]
          apply loose_is
          · intro W vals hW hkn
            clear hkn
            refine ⟨?_⟩
            simp only [fill]
            go_simp
            refine looseUpon_calls ?_
            (rw [← HXX.out]; exact (tMeetsF_43 _ x hxl H43.out).mono (by rintro e w9 ⟨rfl, hk9⟩; exact ⟨_, rfl, hk9, rfl⟩))
          simp only [addEnt]
          apply loose_is
          · intro W vals hW hkn
            clear hkn
            refine ⟨?_⟩
            simp only [fill]
            go_simp
            first | exact ⟨Keeps.refl _ _, rfl⟩ | exact ⟨Keeps.alloc _ _, rfl⟩
          simp only [addEnt]
          apply loose_is
          · intro W vals hW hkn
            clear hkn
            refine ⟨?_⟩
            simp only [fill]
            go_simp
            first | exact ⟨Keeps.refl _ _, rfl⟩ | exact ⟨Keeps.alloc _ _, rfl⟩
          simp only [addEnt]
          apply loose_is
          · intro W vals hW hkn
            clear hkn
            refine ⟨?_⟩
            simp only [fill]
            go_simp
            first | exact ⟨Keeps.refl _ _, rfl⟩ | exact ⟨Keeps.alloc _ _, rfl⟩
          simp only [addEnt]
          apply loose_is
          · intro W vals hW hkn
            clear hkn
            refine ⟨?_⟩
            simp only [fill]
            go_simp
            refine looseUpon_calls ?_
            exact (tAny1_any _ _).mono (by rintro e w9 ⟨rfl, rfl⟩; exact ⟨_, rfl, Keeps.refl _ _, rfl⟩)
          simp only [addEnt]
          apply loose_is
          · intro W vals hW hkn
            clear hkn
            refine ⟨?_⟩
            simp only [fill]
            go_simp
            first | exact ⟨Keeps.refl _ _, rfl⟩ | exact ⟨Keeps.alloc _ _, rfl⟩
          simp only [addEnt]
          apply loose_is
          · intro W vals hW hkn
            clear hkn
            refine ⟨?_⟩
            simp only [fill]
            go_simp
            first | exact ⟨Keeps.refl _ _, rfl⟩ | exact ⟨Keeps.alloc _ _, rfl⟩
          simp only [addEnt]
          apply loose_is
          · intro W vals hW hkn
            clear hkn
            refine ⟨?_⟩
            simp only [fill]
            go_simp
            first | exact ⟨Keeps.refl _ _, rfl⟩ | exact ⟨Keeps.alloc _ _, rfl⟩
          simp only [addEnt]
          refine loose_nil (fun W vals hW hkn => ?_)
          simp only [knowsAll] at hkn
          try simp only [and_true] at hkn
          simp only [fill, Act.put, List.setIfInBounds_toArray, List.set_cons_succ, List.set_cons_zero]
          clear hkn M0 MN
          have HWW := Lib.hid (show Keeps V W [] from hW)
          have hrk : Keeps W6 W [W3.heap.size] := HR.out.2.2.trans HWW.out (by simp)
          have hrl := HR.out.2.1.keeps HWW.out
          have d0 := hrl.cell 0
          have z0 := hrl.frozen 0
          simp only [List.getElem?_toArray, List.getElem?_cons_zero] at d0
          have HG := Lib.hid (And.intro hrl hrk)
          have hrn : mtRun (qs ++ [x]) N = some ns := by rw [mtRun_snoc, HR.out.1]; exact HMR.out
          have HRN := Lib.hid hrn
          have HSZ := Lib.hid (show ∀ u : Value, Keeps V (W.setCell ⟨W3.heap.size, 0, none⟩ u) [W3.heap.size] from fun u => (HWW.out.weaken (T := [W3.heap.size]) (by simp)).trans (Keeps.setCell _ _ _) (fun y hy _ => hy))
          clear hW hrk hrl hrn
          cases ns with
          | nil =>
            gi_wp2_with fail
            refine ⟨KeepsFrom.of_keepsS (HSZ.out _) _ (by have := HZ.out; simp; omega), KpS.of ((HSZ.out _).weaken (by simp)) HW6.out, ?_⟩
            show MtAt w W6 _ _ _ N _
            rw [HM.out]
            exact ⟨[], HRN.out, ⟨_, 0, HG.out.1.store 0 _, rfl, fun h => absurd h (Nat.lt_irrefl 0)⟩, HG.out.2.trans (Keeps.setCell _ _ _) (fun y hy _ => hy)⟩
          | cons y2 ns2 =>
            gi_wp2_with fail
            refine ⟨KeepsFrom.of_keepsS (HSZ.out _) _ (by have := HZ.out; simp; omega), KpS.of ((HSZ.out _).weaken (by simp)) HW6.out, ?_⟩
            show MtAt w W6 _ _ _ N _
            rw [HM.out]
            exact ⟨y2 :: ns2, HRN.out, ⟨_, ns2.length + 1, HG.out.1.store 0 _, rfl, fun _ => by simp⟩, HG.out.2.trans (Keeps.setCell _ _ _) (fun y hy _ => hy)⟩
        · have H43 := Lib.hid h43
          obtain ⟨bb, hbb⟩ : ∃ bb, (x == y) = bb := ⟨_, rfl⟩
          have HBB := Lib.hid hbb
          clear h43 hbb
          cases bb with
          | true =>
            have HMR := Lib.hid (show mtRun [x] (y :: ns) = some ns by rw [mtRun_one H35.out, if_pos (by rw [HBB.out]; simp)])
            gi_wp2_with fail
            refine wpIn_region_keeps rfl _ (by kernel_rfl) rfl (by kernel_rfl) (by kernel_rfl) ?_
            apply loose_is
            · intro W vals hW hkn
              clear hkn
              refine ⟨?_⟩
              simp only [fill]
              go_simp
              first | exact ⟨Keeps.refl _ _, rfl⟩ | exact ⟨Keeps.alloc _ _, rfl⟩
            simp only [addEnt]
            apply loose_is
            · intro W vals hW hkn
              clear hkn
              refine ⟨?_⟩
              simp only [fill]
              go_simp
              first | exact ⟨Keeps.refl _ _, rfl⟩ | exact ⟨Keeps.alloc _ _, rfl⟩
            simp only [addEnt]
            apply loose_is
            · intro W vals hW hkn
              clear hkn
              refine ⟨?_⟩
              simp only [fill]
              go_simp
              first | exact ⟨Keeps.refl _ _, rfl⟩ | exact ⟨Keeps.alloc _ _, rfl⟩
            simp only [addEnt]
            apply loose_is
            · intro W vals hW hkn
              clear hkn
              refine ⟨?_⟩
              simp only [fill]
              go_simp
              first | exact ⟨Keeps.refl _ _, rfl⟩ | exact ⟨Keeps.alloc _ _, rfl⟩
            simp only [addEnt]
            apply loose_is
            · intro W vals hW hkn
              clear hkn
              refine ⟨?_⟩
              simp only [fill]
              go_simp
              first | exact ⟨Keeps.refl _ _, rfl⟩ | exact ⟨Keeps.alloc _ _, rfl⟩
            simp only [addEnt]
            refine loose_has (fun v W' => ∃ b, v = .func (.func 45) #[] #[.pointer (some ⟨b, 0, none⟩)] ∧ Row W' b 9 #[.string ⟨x.toArray⟩]) (fun W vals hW hkn φ' hφ => ?_) ?_
            · simp only [knows] at hkn
              try simp only [and_true] at hkn
              clear hkn
              refine ⟨?_⟩
              simp only [fill]
              go_simp
              (refine looseUpon_calls ?_; rw [← HXX.out]; exact (tMeetsF_other _ x hxl H43.out).mono (by rintro e w9 ⟨b, rfl, hrb, hk9⟩; exact ⟨_, rfl, hk9, hφ.out _ _ ⟨b, rfl, hrb⟩⟩))
            simp only [addEnt]
            apply loose_is
            · intro W vals hW hkn
              clear hkn
              refine ⟨?_⟩
              simp only [fill]
              go_simp
              first | exact ⟨Keeps.refl _ _, rfl⟩ | exact ⟨Keeps.alloc _ _, rfl⟩
            simp only [addEnt]
            apply loose_is
            · intro W vals hW hkn
              clear hkn
              refine ⟨?_⟩
              simp only [fill]
              go_simp
              first | exact ⟨Keeps.refl _ _, rfl⟩ | exact ⟨Keeps.alloc _ _, rfl⟩
            simp only [addEnt]
            apply loose_is
            · intro W vals hW hkn
              clear hkn
              refine ⟨?_⟩
              simp only [fill]
              go_simp
              first | exact ⟨Keeps.refl _ _, rfl⟩ | exact ⟨Keeps.alloc _ _, rfl⟩
            simp only [addEnt]
            apply loose_is
            · intro W vals hW hkn
              simp only [knows] at hkn
              try simp only [and_true] at hkn
              obtain ⟨W8, q0, q1, b, hv, hrb⟩ := hkn (by decide); have HRB := Lib.hid (hrb.keeps q1); clear q0 q1 hrb hkn
              refine ⟨?_⟩
              simp only [fill]
              go_simp
              refine looseUpon_calls ?_
              rw [← HYY.out]; exact (tSame1_any _ b x y HRB.out).mono (by rintro e w9 ⟨rfl, rfl⟩; exact ⟨_, rfl, Keeps.refl _ _, by rw [HBB.out]⟩)
            simp only [addEnt]
            apply loose_is
            · intro W vals hW hkn
              clear hkn
              refine ⟨?_⟩
              simp only [fill]
              go_simp
              first | exact ⟨Keeps.refl _ _, rfl⟩ | exact ⟨Keeps.alloc _ _, rfl⟩
            simp only [addEnt]
            apply loose_is
            · intro W vals hW hkn
              clear hkn
              refine ⟨?_⟩
              simp only [fill]
              go_simp
              first | exact ⟨Keeps.refl _ _, rfl⟩ | exact ⟨Keeps.alloc _ _, rfl⟩
            simp only [addEnt]
            apply loose_is
            · intro W vals hW hkn
              clear hkn
              refine ⟨?_⟩
              simp only [fill]
              go_simp
              first | exact ⟨Keeps.refl _ _, rfl⟩ | exact ⟨Keeps.alloc _ _, rfl⟩
            simp only [addEnt]
            refine loose_nil (fun W vals hW hkn => ?_)
            simp only [knowsAll] at hkn
            try simp only [and_true] at hkn
            simp only [fill, Act.put, List.setIfInBounds_toArray, List.set_cons_succ, List.set_cons_zero]
            clear hkn M0 MN
            have HWW := Lib.hid (show Keeps V W [] from hW)
            have hrk : Keeps W6 W [W3.heap.size] := HR.out.2.2.trans HWW.out (by simp)
            have hrl := HR.out.2.1.keeps HWW.out
            have d0 := hrl.cell 0
            have z0 := hrl.frozen 0
            simp only [List.getElem?_toArray, List.getElem?_cons_zero] at d0
            have HG := Lib.hid (And.intro hrl hrk)
            have hrn : mtRun (qs ++ [x]) N = some ns := by rw [mtRun_snoc, HR.out.1]; exact HMR.out
            have HRN := Lib.hid hrn
            have HSZ := Lib.hid (show ∀ u : Value, Keeps V (W.setCell ⟨W3.heap.size, 0, none⟩ u) [W3.heap.size] from fun u => (HWW.out.weaken (T := [W3.heap.size]) (by simp)).trans (Keeps.setCell _ _ _) (fun y hy _ => hy))
            clear hW hrk hrl hrn
            cases ns with
            | nil =>
              gi_wp2_with fail
              refine ⟨KeepsFrom.of_keepsS (HSZ.out _) _ (by have := HZ.out; simp; omega), KpS.of ((HSZ.out _).weaken (by simp)) HW6.out, ?_⟩
              show MtAt w W6 _ _ _ N _
              rw [HM.out]
              exact ⟨[], HRN.out, ⟨_, 0, HG.out.1.store 0 _, rfl, fun h => absurd h (Nat.lt_irrefl 0)⟩, HG.out.2.trans (Keeps.setCell _ _ _) (fun y hy _ => hy)⟩
            | cons y2 ns2 =>
              gi_wp2_with fail
              refine ⟨KeepsFrom.of_keepsS (HSZ.out _) _ (by have := HZ.out; simp; omega), KpS.of ((HSZ.out _).weaken (by simp)) HW6.out, ?_⟩
              show MtAt w W6 _ _ _ N _
              rw [HM.out]
              exact ⟨y2 :: ns2, HRN.out, ⟨_, ns2.length + 1, HG.out.1.store 0 _, rfl, fun _ => by simp⟩, HG.out.2.trans (Keeps.setCell _ _ _) (fun y hy _ => hy)⟩
          | false =>
            have HNO := Lib.hid (show mtRun [x] (y :: ns) = none by rw [mtRun_one H35.out, if_neg (by rw [HBB.out]; simpa using H43.out)])
            gi_wp2_with fail
            refine wpIn_region_keeps rfl _ (by kernel_rfl) rfl (by kernel_rfl) (by kernel_rfl) ?_
            apply loose_is
            · intro W vals hW hkn
              clear hkn
              refine ⟨?_⟩
              simp only [fill]
              go_simp
              first | exact ⟨Keeps.refl _ _, rfl⟩ | exact ⟨Keeps.alloc _ _, rfl⟩
            simp only [addEnt]
            apply loose_is
            · intro W vals hW hkn
              clear hkn
              refine ⟨?_⟩
              simp only [fill]
              go_simp
              first | exact ⟨Keeps.refl _ _, rfl⟩ | exact ⟨Keeps.alloc _ _, rfl⟩
            simp only [addEnt]
            apply loose_is
            · intro W vals hW hkn
              clear hkn
              refine ⟨?_⟩
              simp only [fill]
              go_simp
              first | exact ⟨Keeps.refl _ _, rfl⟩ | exact ⟨Keeps.alloc _ _, rfl⟩
            simp only [addEnt]
            apply loose_is
            · intro W vals hW hkn
              clear hkn
              refine ⟨?_⟩
              simp only [fill]
              go_simp
              first | exact ⟨Keeps.refl _ _, rfl⟩ | exact ⟨Keeps.alloc _ _, rfl⟩
            simp only [addEnt]
            apply loose_is
            · intro W vals hW hkn
              clear hkn
              refine ⟨?_⟩
              simp only [fill]
              go_simp
              first | exact ⟨Keeps.refl _ _, rfl⟩ | exact ⟨Keeps.alloc _ _, rfl⟩
            simp only [addEnt]
            refine loose_has (fun v W' => ∃ b, v = .func (.func 45) #[] #[.pointer (some ⟨b, 0, none⟩)] ∧ Row W' b 9 #[.string ⟨x.toArray⟩]) (fun W vals hW hkn φ' hφ => ?_) ?_
            · simp only [knows] at hkn
              try simp only [and_true] at hkn
              clear hkn
              refine ⟨?_⟩
              simp only [fill]
              go_simp
              (refine looseUpon_calls ?_; rw [← HXX.out]; exact (tMeetsF_other _ x hxl H43.out).mono (by rintro e w9 ⟨b, rfl, hrb, hk9⟩; exact ⟨_, rfl, hk9, hφ.out _ _ ⟨b, rfl, hrb⟩⟩))
            simp only [addEnt]
            apply loose_is
            · intro W vals hW hkn
              clear hkn
              refine ⟨?_⟩
              simp only [fill]
              go_simp
              first | exact ⟨Keeps.refl _ _, rfl⟩ | exact ⟨Keeps.alloc _ _, rfl⟩
            simp only [addEnt]
            apply loose_is
            · intro W vals hW hkn
              clear hkn
              refine ⟨?_⟩
              simp only [fill]
              go_simp
              first | exact ⟨Keeps.refl _ _, rfl⟩ | exact ⟨Keeps.alloc _ _, rfl⟩
            simp only [addEnt]
            apply loose_is
            · intro W vals hW hkn
              clear hkn
              refine ⟨?_⟩
              simp only [fill]
              go_simp
              first | exact ⟨Keeps.refl _ _, rfl⟩ | exact ⟨Keeps.alloc _ _, rfl⟩
            simp only [addEnt]
            apply loose_is
            · intro W vals hW hkn
              simp only [knows] at hkn
              try simp only [and_true] at hkn
              obtain ⟨W8, q0, q1, b, hv, hrb⟩ := hkn (by decide); have HRB := Lib.hid (hrb.keeps q1); clear q0 q1 hrb hkn
              refine ⟨?_⟩
              simp only [fill]
              go_simp
              refine looseUpon_calls ?_
              rw [← HYY.out]; exact (tSame1_any _ b x y HRB.out).mono (by rintro e w9 ⟨rfl, rfl⟩; exact ⟨_, rfl, Keeps.refl _ _, by rw [HBB.out]⟩)
            simp only [addEnt]
            apply loose_is
            · intro W vals hW hkn
              clear hkn
              refine ⟨?_⟩
              simp only [fill]
              go_simp
              first | exact ⟨Keeps.refl _ _, rfl⟩ | exact ⟨Keeps.alloc _ _, rfl⟩
            simp only [addEnt]
            apply loose_is
            · intro W vals hW hkn
              clear hkn
              refine ⟨?_⟩
              simp only [fill]
              go_simp
              first | exact ⟨Keeps.refl _ _, rfl⟩ | exact ⟨Keeps.alloc _ _, rfl⟩
            simp only [addEnt]
            apply loose_is
            · intro W vals hW hkn
              clear hkn
              refine ⟨?_⟩
              simp only [fill]
              go_simp
              first | exact ⟨Keeps.refl _ _, rfl⟩ | exact ⟨Keeps.alloc _ _, rfl⟩
            simp only [addEnt]
            refine loose_nil (fun W vals hW hkn => ?_)
            simp only [knowsAll] at hkn
            try simp only [and_true] at hkn
            simp only [fill, Act.put, List.setIfInBounds_toArray, List.set_cons_succ, List.set_cons_zero]
            clear hkn M0 MN
            have HWW := Lib.hid (show Keeps V W [] from hW)
            have hrk : Keeps W6 W [W3.heap.size] := HR.out.2.2.trans HWW.out (by simp)
            have hrs := HQ.out.2.2.1
            have g0 := hrs.r0.keep hrk (by have := HZ.out; simp; omega)
            have g1 := hrs.r1.keep hrk (by have := HZ.out; simp; omega)
            have d0 := g0.cell 0
            have d1 := g1.cell 0
            have z0 := g0.frozen 0
            have z1 := g1.frozen 0
            simp only [List.getElem?_toArray, List.getElem?_cons_zero] at d0 d1
            have HG := Lib.hid (And.intro g0 (And.intro g1 hrk))
            clear hW hrk hrs g0 g1
            gi_wp2_with fail
            have kk : Keeps W ((W.setCell ⟨w.heap.size, 0, none⟩ (.bool false)).setCell ⟨w.heap.size + 1, 0, none⟩ (.int .i64 0)) [w.heap.size, w.heap.size + 1] := ((Keeps.setCell W ⟨w.heap.size, 0, none⟩ (.bool false)).weaken (T := [w.heap.size, w.heap.size + 1]) (by simp)).trans (Keeps.setCell _ _ _) (by simp)
            refine ⟨KeepsFrom.of_keepsS ((HWW.out.weaken (T := [w.heap.size, w.heap.size + 1]) (by simp)).trans kk (fun y hy _ => hy)) _ (by have := HZ.out; simp; omega), .inr ⟨rfl, ⟨qs, x, _, HM.out, H35.out, HR.out.1, HNO.out⟩, (HG.out.1.store 0 _).far (by simp) _, (HG.out.2.1.far (by simp) _).store 0 _, (HG.out.2.2.weaken (T := [W3.heap.size, w.heap.size, w.heap.size + 1]) (by simp)).trans kk (fun y hy _ => by simp at hy ⊢; omega)⟩⟩
  case done =>
    rintro D ys WA hD hys ⟨r, hrun, ⟨A, k, hr, hk, hA⟩, hkeep⟩ hK
    have hL' : ys.map (fun x : Lvl => x.1.1) = L := by
      have e := congrArg (List.map fun x : List UInt8 × Bool => x.1) hys
      rw [List.map_map, tSeq_fst] at e
      exact e
    rw [hL'] at hrun
    have HT := Lib.hid (show tMeetL (tLev f) (tLev m) = r.isEmpty by
      rw [HLN.out.1, HLN.out.2]
      have := tMeetL_run hrun []
      rw [List.append_nil] at this
      rw [this]
      rfl)
    obtain ⟨bb, hbb⟩ : ∃ bb, r.isEmpty = bb := ⟨_, rfl⟩
    have hkb : ((k : Int) == 0) = bb := by
      rw [← hbb, hk]
      cases r <;> simp
      omega
    rw [hbb] at HT
    rw [HT.out]
    have c0 := hr.cell 0
    simp only [List.getElem?_toArray, List.getElem?_cons_zero] at c0
    have g0 := HQ.out.2.2.1.r0.keep hkeep (by have := HZ.out; simp; omega)
    have g1 := HQ.out.2.2.1.r1.keep hkeep (by have := HZ.out; simp; omega)
    have d0 := g0.cell 0
    have d1 := g1.cell 0
    have z0 := g0.frozen 0
    have z1 := g1.frozen 0
    simp only [List.getElem?_toArray, List.getElem?_cons_zero] at d0 d1
    have HG := Lib.hid (And.intro g0 (And.intro g1 (And.intro hkeep (And.intro hK hD))))
    clear hr hk hA hrun hL' hys hbb g0 g1 hkeep hK hD
    gi_wp2_with fail
    have kk : Keeps WA ((WA.setCell ⟨w.heap.size, 0, none⟩ (.bool bb)).setCell ⟨w.heap.size + 1, 0, none⟩ (.int .i64 0)) [w.heap.size, w.heap.size + 1] := ((Keeps.setCell WA ⟨w.heap.size, 0, none⟩ (.bool bb)).weaken (T := [w.heap.size, w.heap.size + 1]) (by simp)).trans (Keeps.setCell _ _ _) (by simp)
    have hz := HZ.out
    have hD := HG.out.2.2.2.2
    show bodyPostM _ _ _ _ _ Exit.ret _ _
    rw [HT.out]
    refine meets_door rfl rfl ((HG.out.1.store 0 _).far (p := ⟨w.heap.size + 1, 0, none⟩) (by simp) _) ((HG.out.2.1.far (p := ⟨w.heap.size, 0, none⟩) (by simp) _).store 0 _) (by omega) (by omega) ?_ ((HQ.out.2.2.1.k.trans HG.out.2.2.1 (T := [W3.heap.size]) (fun y hy hlt => by simp at hy; omega)).trans kk (fun y hy hlt => by simp at hy; omega))
    exact (kk.block D (Array.getElem?_eq_some_iff.1 HG.out.2.2.2.1).1 (by simp; omega)).trans HG.out.2.2.2.1
  case stop =>
    rintro D c pre WA hD hst (⟨rfl, ⟨qs, r, hqs, hrun⟩, hr, hkeep⟩ | ⟨rfl, ⟨qs, g, r, hqs, h35, hrun, hno⟩, hr0, hr1, hkeep⟩) hK
    · have hpre := mt_pre hst
      rw [hqs] at hpre
      obtain ⟨rest, hrest⟩ := hpre
      have HT := Lib.hid (show tMeetL (tLev f) (tLev m) = true by
        rw [HLN.out.1, HLN.out.2, ← hrest, List.append_assoc, tMeetL_run hrun]
        rfl)
      rw [HT.out]
      have c0 := hr.cell 0
      simp only [List.getElem?_toArray, List.getElem?_cons_zero] at c0
      have g0 := HQ.out.2.2.1.r0.keep hkeep (by have := HZ.out; simp; omega)
      have g1 := HQ.out.2.2.1.r1.keep hkeep (by have := HZ.out; simp; omega)
      have d0 := g0.cell 0
      have d1 := g1.cell 0
      have z0 := g0.frozen 0
      have z1 := g1.frozen 0
      simp only [List.getElem?_toArray, List.getElem?_cons_zero] at d0 d1
      have HG := Lib.hid (And.intro g0 (And.intro g1 (And.intro hkeep (And.intro hK hD))))
      clear hr hqs hrun hst hrest g0 g1 hkeep hK hD
      gi_wp2_with fail
      have kk : Keeps WA ((WA.setCell ⟨w.heap.size, 0, none⟩ (.bool true)).setCell ⟨w.heap.size + 1, 0, none⟩ (.int .i64 0)) [w.heap.size, w.heap.size + 1] := ((Keeps.setCell WA ⟨w.heap.size, 0, none⟩ (.bool true)).weaken (T := [w.heap.size, w.heap.size + 1]) (by simp)).trans (Keeps.setCell _ _ _) (by simp)
      have hz := HZ.out
      have hD := HG.out.2.2.2.2
      show bodyPostM _ _ _ _ _ Exit.ret _ _
      rw [HT.out]
      refine meets_door rfl rfl ((HG.out.1.store 0 _).far (p := ⟨w.heap.size + 1, 0, none⟩) (by simp) _) ((HG.out.2.1.far (p := ⟨w.heap.size, 0, none⟩) (by simp) _).store 0 _) (by omega) (by omega) ?_ ((HQ.out.2.2.1.k.trans HG.out.2.2.1 (T := [W3.heap.size]) (fun y hy hlt => by simp at hy; omega)).trans kk (fun y hy hlt => by simp at hy; omega))
      exact (kk.block D (Array.getElem?_eq_some_iff.1 HG.out.2.2.2.1).1 (by simp; omega)).trans HG.out.2.2.2.1
    · have hpre := mt_pre hst
      rw [hqs] at hpre
      obtain ⟨rest, hrest⟩ := hpre
      have HT := Lib.hid (show tMeetL (tLev f) (tLev m) = false by
        rw [HLN.out.1, HLN.out.2, ← hrest, List.append_assoc, tMeetL_run hrun]
        exact tMeetL_no h35 hno)
      rw [HT.out]
      have hz := HZ.out
      gi_wp2_with fail
      show bodyPostM _ _ _ _ _ Exit.ret _ _
      exact meets_door rfl rfl hr0 hr1 (by omega) (by omega) hK (HQ.out.2.2.1.k.trans hkeep (fun y hy hlt => by simp at hy; omega))
theorem meets_ret {w W9 : World} {t : Array Value} {B : Bool} {c : Int} (h4 : t.getD 4 undef = .pointer (some ⟨w.heap.size, 0, none⟩)) (h5 : t.getD 5 undef = .pointer (some ⟨w.heap.size + 1, 0, none⟩)) (q0 : Row W9 w.heap.size 4 #[.bool B]) (q1 : Row W9 (w.heap.size + 1) 23 #[.int .i64 c]) (hk : Keeps w W9 []) :
    bodyPost Tryd.prog Tryd.f9 (PairPost w B c) Exit.ret { tmps := t, defers := [] } W9 := by
  have z0 := q0.cell 0
  have z1 := q1.cell 0
  rw [Array.getD_eq_getD_getElem?] at h4 h5
  simp at z0 z1
  refine bodyPost_ret (v := .tuple #[.bool B, .int .i64 c]) ?_ rfl ⟨rfl, hk⟩
  simp [results, Tryd.results9, go_sem, h4, h5, z0, z1]
set_option maxRecDepth 100000 in
set_option maxHeartbeats 4000000 in
theorem tMeets_not (w : World) (f m : List UInt8) (hf : f.length ≤ 50000) (hml : m.length ≤ 50000) (hm : MaxL w) (h : (tFilter f && tName m && tStarts f m) = false) : Calls Tryd.prog 9 #[.string ⟨f.toArray⟩, .string ⟨m.toArray⟩] w (PairPost w false (mtC f m)) := by
  obtain ⟨F, hF⟩ : ∃ S : ByteArray, (⟨f.toArray⟩ : ByteArray) = S := ⟨_, rfl⟩
  obtain ⟨M, hM⟩ : ∃ S : ByteArray, (⟨m.toArray⟩ : ByteArray) = S := ⟨_, rfl⟩
  have HS := Lib.hid (And.intro hF hM)
  have HX := Lib.hid hm
  obtain ⟨b1, h1⟩ : ∃ b, tFilter f = b := ⟨_, rfl⟩
  obtain ⟨b2, h2⟩ : ∃ b, tName m = b := ⟨_, rfl⟩
  obtain ⟨b3, h3⟩ : ∃ b, tStarts f m = b := ⟨_, rfl⟩
  rw [h1, h2, h3] at h
  obtain ⟨cc, hcc⟩ : ∃ cc, mtC f m = cc := ⟨_, rfl⟩
  have HC := Lib.hid (show cc = if (b1 && b2) = true then 0 else 230 by rw [← hcc]; unfold mtC; rw [h1, h2])
  have HB := Lib.hid (And.intro h1 (And.intro h2 h3))
  rw [hF, hM, hcc]
  clear hF hM hm h1 h2 h3 hcc
  obtain ⟨W0, hW0⟩ : ∃ W0, (w.alloc (.cells #[.bool false] 4)).alloc (.cells #[.int .i64 0] 23) = W0 := ⟨_, rfl⟩
  have hA0 : ResAt w W0 false 0 := by
    rw [← hW0]
    refine ⟨(Row.new _ _ _).alloc _, ?_, (Keeps.alloc _ _).then_alloc _⟩
    have := Row.new (w.alloc (.cells #[.bool false] 4)) 23 #[.int .i64 0]
    rwa [World.size_alloc] at this
  have HA0 := Lib.hid hA0
  clear hA0
  go_enter Tryd.func9, Tryd.ntmps9
  go_wp2_with fail
  refine wp_scope_straight ?_
  go_wp2_with fail
  rw [← HS.out.1]
  refine (tFilter_any W0 f hf (HX.out.keeps HA0.out.k)).mono ?_
  rintro e w1 ⟨rfl, hk1⟩
  rw [HS.out.1, HB.out.1]
  clear hW0
  have HA1 := Lib.hid (HA0.out.keeps hk1)
  clear hk1
  cases b1 with
  | false =>
    have HA := HA1
    have d0 := (HA.out).r0.cell 0
    have d1 := (HA.out).r1.cell 0
    have z0 := (HA.out).r0.frozen 0
    have z1 := (HA.out).r1.frozen 0
    simp only [List.getElem?_toArray, List.getElem?_cons_zero] at d0 d1
    go_wp2_with fail
    have kk : Keeps w1 ((w1.setCell ⟨w.heap.size, 0, none⟩ (.bool false)).setCell ⟨w.heap.size + 1, 0, none⟩ (.int .i64 230)) [w.heap.size, w.heap.size + 1] := ((Keeps.setCell w1 ⟨w.heap.size, 0, none⟩ (.bool false)).weaken (T := [w.heap.size, w.heap.size + 1]) (by simp)).trans (Keeps.setCell _ _ _) (by simp)
    show bodyPost _ _ _ Exit.ret _ _
    rw [show cc = 230 from HC.out]
    refine meets_ret rfl rfl ((HA.out.r0.store 0 _).far (p := ⟨w.heap.size + 1, 0, none⟩) (by simp) _) ((HA.out.r1.far (p := ⟨w.heap.size, 0, none⟩) (by simp) _).store 0 _) (HA.out.k.trans kk (fun y hy hlt => by simp at hy; omega))
  | true =>
    go_wp2_with fail
    rw [← HS.out.2]
    refine (tName_any w1 m (by omega)).mono ?_
    rintro e w2 ⟨rfl, hk2⟩
    rw [HS.out.2, HB.out.2.1]
    have HA2 := Lib.hid (HA1.out.keeps hk2)
    clear hk2
    cases b2 with
    | false =>
      have HA := HA2
      have d0 := (HA.out).r0.cell 0
      have d1 := (HA.out).r1.cell 0
      have z0 := (HA.out).r0.frozen 0
      have z1 := (HA.out).r1.frozen 0
      simp only [List.getElem?_toArray, List.getElem?_cons_zero] at d0 d1
      go_wp2_with fail
      have kk : Keeps w2 ((w2.setCell ⟨w.heap.size, 0, none⟩ (.bool false)).setCell ⟨w.heap.size + 1, 0, none⟩ (.int .i64 230)) [w.heap.size, w.heap.size + 1] := ((Keeps.setCell w2 ⟨w.heap.size, 0, none⟩ (.bool false)).weaken (T := [w.heap.size, w.heap.size + 1]) (by simp)).trans (Keeps.setCell _ _ _) (by simp)
      show bodyPost _ _ _ Exit.ret _ _
      rw [show cc = 230 from HC.out]
      refine meets_ret rfl rfl ((HA.out.r0.store 0 _).far (p := ⟨w.heap.size + 1, 0, none⟩) (by simp) _) ((HA.out.r1.far (p := ⟨w.heap.size, 0, none⟩) (by simp) _).store 0 _) (HA.out.k.trans kk (fun y hy hlt => by simp at hy; omega))
    | true =>
      obtain rfl : b3 = false := by simpa using h
      clear h
      go_wp2_with fail
      rw [← HS.out.1, ← HS.out.2]
      refine (tStarts_any w2 f m).mono ?_
      rintro e w3 ⟨rfl, rfl⟩
      rw [HS.out.1, HS.out.2, HB.out.2.2]
      have HA := HA2
      have d0 := (HA.out).r0.cell 0
      have d1 := (HA.out).r1.cell 0
      have z0 := (HA.out).r0.frozen 0
      have z1 := (HA.out).r1.frozen 0
      simp only [List.getElem?_toArray, List.getElem?_cons_zero] at d0 d1
      go_wp2_with fail
      have kk : Keeps w2 ((w2.setCell ⟨w.heap.size, 0, none⟩ (.bool false)).setCell ⟨w.heap.size + 1, 0, none⟩ (.int .i64 0)) [w.heap.size, w.heap.size + 1] := ((Keeps.setCell w2 ⟨w.heap.size, 0, none⟩ (.bool false)).weaken (T := [w.heap.size, w.heap.size + 1]) (by simp)).trans (Keeps.setCell _ _ _) (by simp)
      show bodyPost _ _ _ Exit.ret _ _
      rw [show cc = 0 from HC.out]
      refine meets_ret rfl rfl ((HA.out.r0.store 0 _).far (p := ⟨w.heap.size + 1, 0, none⟩) (by simp) _) ((HA.out.r1.far (p := ⟨w.heap.size, 0, none⟩) (by simp) _).store 0 _) (HA.out.k.trans kk (fun y hy hlt => by simp at hy; omega))
theorem tMeets_any (w : World) (f m : List UInt8) (hf : f.length ≤ 50000) (hml : m.length ≤ 50000) (hm : MaxL w) : Calls Tryd.prog 9 #[.string ⟨f.toArray⟩, .string ⟨m.toArray⟩] w (PairPost w (mtB f m) (mtC f m)) := by
  unfold mtB
  cases h : (tFilter f && tName m && tStarts f m) with
  | false =>
    have e : (tFilter f && tName m && tMeets f m) = false := by
      unfold tMeets
      rw [← Bool.and_assoc, h]
      rfl
    rw [e]
    exact tMeets_not w f m hf hml hm h
  | true =>
    simp only [Bool.and_eq_true] at h
    obtain ⟨⟨h1, h2⟩, h3⟩ := h
    have e : (tFilter f && tName m && tMeets f m) = tMeetL (tLev f) (tLev m) := by
      unfold tMeets
      rw [h1, h2, h3]
      rfl
    have ec : mtC f m = 0 := by unfold mtC; rw [h1, h2]; rfl
    rw [e, ec]
    exact callsIn_wide.1 (tMeets_yes 6 (by omega) w f m hf hml hm h1 h2 h3)
end Go.Proofs.YtbjoobanbejgbaaDoor

namespace Go.Proofs.YtbjoobanbejgbaaDoor
open Go.RowKit Go.Shelf

/-- Texts as values. -/
abbrev txL (l : List (List UInt8)) : List Value := l.map fun x => .string ⟨x.toArray⟩
def lenOf (v : Value) : Nat := match v with
  | .slice _ n _ => n
  | _ => 0
theorem txC_list (l : List (List UInt8)) : (txC l).toList = txL l := by
  show (l.flatMap _) = _
  induction l with
  | nil => rfl
  | cons a l ih => rw [List.flatMap_cons, ih]; rfl
theorem txL_lies {w : World} {b : Nat} {l : List (List UInt8)} (h : Row w b 9 (txC l)) : Lies w w.heap.size (some ⟨b, 0, none⟩) (txL l) :=
  lies_of_row h (txC_list l)
/-- Two lists of texts that are gone over. -/
structure WiAt (w wr : World) (la lb la' lb' : List (List UInt8)) (A B : Option Addr) (c d : Nat) : Prop where
  a : Lies wr wr.heap.size A (txL la')
  b : Lies wr wr.heap.size B (txL lb')
  ca : la'.length ≤ c
  cb : lb'.length ≤ d
  e : tWithL la lb = tWithL la' lb'
  k : Keeps w wr []
theorem WiAt.next {w wr W : World} {la lb xs bs : List (List UInt8)} {x b : List UInt8} {ga oa gb ob c d : Nat}
    (h : WiAt w wr la lb (x :: xs) (b :: bs) (some ⟨ga, oa, none⟩) (some ⟨gb, ob, none⟩) c d) (k : Keeps wr W []) (e : tWithL la lb = tWithL xs bs) :
    WiAt w W la lb xs bs (if c = 1 then some ⟨ga, oa, none⟩ else some ⟨ga, oa + 1, none⟩) (if d = 1 then some ⟨gb, ob, none⟩ else some ⟨gb, ob + 1, none⟩) (c - 1) (d - 1) :=
  have hc := h.ca
  have hd := h.cb
  ⟨(h.a.keeps k).cut (k := 1) (cap := c) (by simpa using hc),
    (h.b.keeps k).cut (k := 1) (cap := d) (by simpa using hd),
    by simp only [List.length_cons] at hc; omega, by simp only [List.length_cons] at hd; omega, e, h.k.trans k (by simp)⟩
set_option maxRecDepth 100000 in
set_option maxHeartbeats 4000000 in
theorem tWithL_any (w : World) (la lb : List (List UInt8)) (A B : Option Addr) (c d : Nat) (ha : Lies w w.heap.size A (txL la)) (hb : Lies w w.heap.size B (txL lb)) (hc : la.length ≤ c) (hd : lb.length ≤ d) (_h6 : la.length ≤ 60000) :
    Calls Tryd.prog 29 #[.slice A la.length c, .slice B lb.length d] w (TruePost w (tWithL la lb)) := by
  have HP := Lib.hid (show WiAt w w la lb la lb A B c d from ⟨ha, hb, hc, hd, rfl, Keeps.refl _ _⟩)
  obtain ⟨TT, hTT⟩ : ∃ t, tWithL la lb = t := ⟨_, rfl⟩
  have HTT := Lib.hid hTT
  rw [hTT]
  clear ha hb hc hd hTT
  go_enter Tryd.func29, Tryd.ntmps29
  go_wp2_with fail
  go_loopw [0, 1] (fun a b wr => ∃ (la' lb' : List (List UInt8)) (A B : Option Addr) (c d : Nat), a = .slice A la'.length c ∧ b = .slice B lb'.length d ∧ Hid (WiAt w wr la lb la' lb' A B c d)) (fun a _ _ => lenOf a)
  case atStart => exact ⟨_, _, _, _, _, _, rfl, rfl, HP⟩
  case round =>
    clear HP
    obtain ⟨la', lb', A, B, c, d, rfl, rfl, HR⟩ := hrel
    cases lb' with
    | nil =>
      have HT := Lib.hid (show TT = la'.isEmpty by rw [← HTT.out, HR.out.e, tWithL_nil])
      cases la' with
      | nil =>
        go_wp2_with fail
        go_ret
        exact ⟨by rw [HT.out]; rfl, HR.out.k⟩
      | cons x xs =>
        go_wp2_with fail
        go_ret
        exact ⟨by rw [HT.out]; rfl, HR.out.k⟩
    | cons b bs =>
      obtain ⟨gb, ob, rfl, hgb, hcb⟩ := HR.out.b (by simp)
      have hb0 : wr.cell? ⟨gb, ob, none⟩ = some (.string ⟨b.toArray⟩) := by
        have := hcb 0 _ rfl
        rwa [Nat.add_zero] at this
      obtain ⟨Y, hY⟩ : ∃ S : ByteArray, (⟨b.toArray⟩ : ByteArray) = S := ⟨_, rfl⟩
      have eY : Y.toList = b := by rw [← hY, Lib.toList_data]
      rw [hY] at hb0
      by_cases h35 : b = [35]
      · have HT := Lib.hid (show TT = true by rw [← HTT.out, HR.out.e, tWithL_cons, if_pos h35])
        have e35 : (Y.toList == [35]) = true := by rw [eY, h35]; rfl
        clear h35 eY hY hcb hgb
        go_wp2_with fail
        go_ret
        exact ⟨by rw [HT.out]; rfl, HR.out.k⟩
      · have e35 : (Y.toList == [35]) = false := by rw [eY]; simpa using h35
        cases la' with
        | nil =>
          have HT := Lib.hid (show TT = false by rw [← HTT.out, HR.out.e, tWithL_cons, if_neg h35])
          clear h35 eY hY hcb hgb
          go_wp2_with fail
          go_ret
          exact ⟨by rw [HT.out]; rfl, HR.out.k⟩
        | cons x xs =>
          obtain ⟨ga, oa, rfl, hga, hca⟩ := HR.out.a (by simp)
          have ha0 : wr.cell? ⟨ga, oa, none⟩ = some (.string ⟨x.toArray⟩) := by
            have := hca 0 _ rfl
            rwa [Nat.add_zero] at this
          obtain ⟨X, hX⟩ : ∃ S : ByteArray, (⟨x.toArray⟩ : ByteArray) = S := ⟨_, rfl⟩
          have eX : X.toList = x := by rw [← hX, Lib.toList_data]
          rw [hX] at ha0
          have l1 : (1 : Int) ≤ xs.length + 1 := by omega
          have l2 : (1 : Int) ≤ bs.length + 1 := by omega
          have n1 : (((xs.length : Int) + 1) == 0) = false := by simp only [beq_eq_false_iff_ne]; omega
          have n2 : (((bs.length : Int) + 1) == 0) = false := by simp only [beq_eq_false_iff_ne]; omega
          by_cases hx35 : x = [35]
          · have HT := Lib.hid (show TT = false by rw [← HTT.out, HR.out.e, tWithL_cons, if_neg h35]; simp only; rw [if_pos hx35])
            have f35 : (X.toList == [35]) = true := by rw [eX, hx35]; rfl
            clear h35 eY hY hcb hgb hx35 eX hX hca hga
            go_wp2_with fail
            go_ret
            exact ⟨by rw [HT.out]; rfl, HR.out.k⟩
          · have f35 : (X.toList == [35]) = false := by rw [eX]; simpa using hx35
            have HT := Lib.hid (show TT = ((b == [43] || x == b) && tWithL xs bs) by rw [← HTT.out, HR.out.e, tWithL_cons, if_neg h35]; simp only; rw [if_neg hx35])
            obtain ⟨b1, h1⟩ : ∃ b1, (b == [43]) = b1 := ⟨_, rfl⟩
            obtain ⟨b2, h2⟩ : ∃ b2, (x == b) = b2 := ⟨_, rfl⟩
            rw [h1, h2] at HT
            have f1 : (Y.toList == [43]) = b1 := by rw [eY]; exact h1
            have f2 : (X.toList == Y.toList) = b2 := by rw [eX, eY]; exact h2
            have MA := fun (W' : World) (hW : Keeps wr W' []) => (hW.cell (p := ⟨ga, oa, none⟩) hga (by simp)).trans ha0
            have MB := fun (W' : World) (hW : Keeps wr W' []) => (hW.cell (p := ⟨gb, ob, none⟩) hgb (by simp)).trans hb0
            clear h35 eY hY hx35 eX hX h1 h2
            cases b1 with
            | true =>
              go_wp2_with fail
              refine wp_region_keeps _ (by kernel_rfl) rfl (by kernel_rfl) ?_
              apply loose_is
              · intro W vals hW hkn
                clear hkn
                refine ⟨?_⟩
                simp only [fill]
                go_simp
                first | exact ⟨Keeps.refl _ _, rfl⟩ | exact ⟨Keeps.alloc _ _, rfl⟩
              simp only [addEnt]
              apply loose_is
              · intro W vals hW hkn
                clear hkn
                refine ⟨?_⟩
                simp only [fill]
                go_simp
                first | exact ⟨Keeps.refl _ _, rfl⟩ | exact ⟨Keeps.alloc _ _, rfl⟩
              simp only [addEnt]
              apply loose_is
              · intro W vals hW hkn
                clear hkn
                refine ⟨?_⟩
                simp only [fill]
                go_simp
                first | exact ⟨Keeps.refl _ _, rfl⟩ | exact ⟨Keeps.alloc _ _, rfl⟩
              simp only [addEnt]
              apply loose_is
              · intro W vals hW hkn
                clear hkn
                refine ⟨?_⟩
                simp only [fill]
                go_simp
                first | exact ⟨Keeps.refl _ _, rfl⟩ | exact ⟨Keeps.alloc _ _, rfl⟩
              simp only [addEnt]
              apply loose_is
              · intro W vals hW hkn
                clear hkn
                refine ⟨?_⟩
                simp only [fill]
                go_simp
                first | exact ⟨Keeps.refl _ _, rfl⟩ | exact ⟨Keeps.alloc _ _, rfl⟩
              simp only [addEnt]
              refine loose_off (fun vals => by kernel_rfl) ?_
              simp only [addEnt]
              refine loose_off (fun vals => by kernel_rfl) ?_
              simp only [addEnt]
              refine loose_off (fun vals => by kernel_rfl) ?_
              simp only [addEnt]
              refine loose_off (fun vals => by kernel_rfl) ?_
              simp only [addEnt]
              refine loose_off (fun vals => by kernel_rfl) ?_
              simp only [addEnt]
              refine loose_off (fun vals => by kernel_rfl) ?_
              simp only [addEnt]
              refine loose_off (fun vals => by kernel_rfl) ?_
              simp only [addEnt]
              apply loose_is
              · intro W vals hW hkn
                clear hkn
                refine ⟨?_⟩
                simp only [fill]
                go_simp
                first | exact ⟨Keeps.refl _ _, rfl⟩ | exact ⟨Keeps.alloc _ _, rfl⟩
              simp only [addEnt]
              apply loose_is
              · intro W vals hW hkn
                clear hkn
                refine ⟨?_⟩
                simp only [fill]
                go_simp
                first | exact ⟨Keeps.refl _ _, rfl⟩ | exact ⟨Keeps.alloc _ _, rfl⟩
              simp only [addEnt]
              refine loose_nil (fun W vals hW hkn => ?_)
              simp only [knowsAll] at hkn
              try simp only [and_true] at hkn
              simp only [fill, Act.put, List.setIfInBounds_toArray, List.set_cons_succ, List.set_cons_zero]
              clear hkn
              go_wp2_with fail
              go_region
              go_wp2_with fail
              exact ⟨⟨xs, bs, _, _, _, _, rfl, rfl, Lib.hid (HR.out.next (hW.trans (Keeps.drew _) (by simp)) (by rw [HTT.out, HT.out]; rfl))⟩, by show _ < _; simp only [lenOf, List.length_cons]; omega⟩
            | false =>
              go_wp2_with fail
              refine wp_region_keeps _ (by kernel_rfl) rfl (by kernel_rfl) ?_
              apply loose_is
              · intro W vals hW hkn
                clear hkn
                refine ⟨?_⟩
                simp only [fill]
                go_simp
                first | exact ⟨Keeps.refl _ _, rfl⟩ | exact ⟨Keeps.alloc _ _, rfl⟩
              simp only [addEnt]
              apply loose_is
              · intro W vals hW hkn
                clear hkn
                refine ⟨?_⟩
                simp only [fill]
                go_simp
                first | exact ⟨Keeps.refl _ _, rfl⟩ | exact ⟨Keeps.alloc _ _, rfl⟩
              simp only [addEnt]
              apply loose_is
              · intro W vals hW hkn
                clear hkn
                refine ⟨?_⟩
                simp only [fill]
                go_simp
                first | exact ⟨Keeps.refl _ _, rfl⟩ | exact ⟨Keeps.alloc _ _, rfl⟩
              simp only [addEnt]
              apply loose_is
              · intro W vals hW hkn
                clear hkn
                refine ⟨?_⟩
                simp only [fill]
                go_simp
                first | exact ⟨Keeps.refl _ _, rfl⟩ | exact ⟨Keeps.alloc _ _, rfl⟩
              simp only [addEnt]
              apply loose_is
              · intro W vals hW hkn
                clear hkn
                refine ⟨?_⟩
                simp only [fill]
                go_simp
                first | exact ⟨Keeps.refl _ _, rfl⟩ | exact ⟨Keeps.alloc _ _, rfl⟩
              simp only [addEnt]
              apply loose_is
              · intro W vals hW hkn
                clear hkn
                refine ⟨?_⟩
                simp only [fill]
                go_simp
                first | exact ⟨Keeps.refl _ _, rfl⟩ | exact ⟨Keeps.alloc _ _, rfl⟩
              simp only [addEnt]
              apply loose_is
              · intro W vals hW hkn
                clear hkn
                refine ⟨?_⟩
                simp only [fill]
                go_simp
                first | exact ⟨Keeps.refl _ _, rfl⟩ | exact ⟨Keeps.alloc _ _, rfl⟩
              simp only [addEnt]
              apply loose_is
              · intro W vals hW hkn
                clear hkn
                refine ⟨?_⟩
                simp only [fill]
                go_simp
                first | exact ⟨Keeps.refl _ _, rfl⟩ | exact ⟨Keeps.alloc _ _, rfl⟩
              simp only [addEnt]
              apply loose_is
              · intro W vals hW hkn
                clear hkn
                refine ⟨?_⟩
                simp only [fill]
                go_simp
                first | exact ⟨Keeps.refl _ _, rfl⟩ | exact ⟨Keeps.alloc _ _, rfl⟩
              simp only [addEnt]
              apply loose_is
              · intro W vals hW hkn
                clear hkn
                refine ⟨?_⟩
                simp only [fill]
                go_simp
                first | exact ⟨Keeps.refl _ _, rfl⟩ | exact ⟨Keeps.alloc _ _, rfl⟩
              simp only [addEnt]
              apply loose_is
              · intro W vals hW hkn
                clear hkn
                refine ⟨?_⟩
                simp only [fill]
                go_simp
                first | exact ⟨Keeps.refl _ _, rfl⟩ | exact ⟨Keeps.alloc _ _, rfl⟩
              simp only [addEnt]
              apply loose_is
              · intro W vals hW hkn
                clear hkn
                refine ⟨?_⟩
                simp only [fill]
                go_simp
                first | exact ⟨Keeps.refl _ _, rfl⟩ | exact ⟨Keeps.alloc _ _, rfl⟩
              simp only [addEnt]
              apply loose_is
              · intro W vals hW hkn
                clear hkn
                refine ⟨?_⟩
                simp only [fill]
                go_simp
                first | exact ⟨Keeps.refl _ _, rfl⟩ | exact ⟨Keeps.alloc _ _, rfl⟩
              simp only [addEnt]
              apply loose_is
              · intro W vals hW hkn
                clear hkn
                refine ⟨?_⟩
                simp only [fill]
                go_simp
                first | exact ⟨Keeps.refl _ _, rfl⟩ | exact ⟨Keeps.alloc _ _, rfl⟩
              simp only [addEnt]
              refine loose_nil (fun W vals hW hkn => ?_)
              simp only [knowsAll] at hkn
              try simp only [and_true] at hkn
              simp only [fill, Act.put, List.setIfInBounds_toArray, List.set_cons_succ, List.set_cons_zero]
              clear hkn
              cases b2 with
              | false =>
                go_wp2_with fail
                go_ret
                exact ⟨by rw [HT.out]; rfl, HR.out.k.trans hW (by simp)⟩
              | true =>
                go_wp2_with fail
                go_region
                go_wp2_with fail
                exact ⟨⟨xs, bs, _, _, _, _, rfl, rfl, Lib.hid (HR.out.next (hW.trans (Keeps.drew _) (by simp)) (by rw [HTT.out, HT.out]; rfl))⟩, by show _ < _; simp only [lenOf, List.length_cons]; omega⟩
end Go.Proofs.YtbjoobanbejgbaaDoor

namespace Go.Proofs.YtbjoobanbejgbaaDoor
open Go.RowKit Go.Shelf

/-- The closure of all over a box that holds Filter. -/
abbrev allFn (b : Nat) : Value := .func (.func 40) #[] #[.pointer (some ⟨b, 0, none⟩)]
def AllBox (w : World) (b : Nat) : Prop := Row w b 26 #[.func (.func 16) #[] #[]] ∧ MaxL w
theorem AllBox.keeps {w w' : World} {b : Nat} (h : AllBox w b) (k : Keeps w w' []) : AllBox w' b := ⟨h.1.keeps k, h.2.keeps k⟩
set_option maxRecDepth 100000 in
theorem tAll1_any (w : World) (b : Nat) (s : List UInt8) (hs : s.length ≤ 50000) (h : AllBox w b) :
    Calls Tryd.prog 40 (#[.string ⟨s.toArray⟩] ++ #[.pointer (some ⟨b, 0, none⟩)]) w (TruePost w (!tFilter s)) := by
  have c := h.1.cell 0
  simp only [List.getElem?_toArray, List.getElem?_cons_zero] at c
  have HM := Lib.hid h.2
  have HS := Lib.hid (show tFilter s = tFilter s ∧ s.length ≤ 50000 from ⟨rfl, hs⟩)
  obtain ⟨B, hB⟩ : ∃ B, tFilter s = B := ⟨_, rfl⟩
  have HB := Lib.hid hB
  rw [hB]
  clear h hs hB
  go_enter Tryd.func40, Tryd.ntmps40
  go_wp2_with (go_at_call 16; refine (tFilter_any _ s HS.out.2 HM.out).mono ?_; rintro e w1 ⟨rfl, hk1⟩; rw [HB.out]; have HK := Lib.hid hk1; clear hk1)
  go_ret
  exact ⟨rfl, HK.out⟩
/-- No text of a row's begin answers false. -/
structure IfAt (w wr : World) (b : Nat) (l : List (List UInt8)) (A : Option Addr) (k : Nat) : Prop where
  a : Lies wr wr.heap.size A (txL l)
  x : AllBox wr b
  z : (l.take k).all tFilter = true
  k : Keeps w wr []
set_option maxRecDepth 100000 in
set_option maxHeartbeats 1000000 in
theorem tIdxF_any (w : World) (A : Option Addr) (c b : Nat) (l : List (List UInt8)) (hL : Lies w w.heap.size A (txL l)) (hlen : l.length ≤ 60000) (hx : AllBox w b) (hl : ∀ s ∈ l, s.length ≤ 50000) :
    Calls Tryd.prog 47 #[.slice A l.length c, allFn b] w fun e w' => ∃ i : Int, e = .returned (.int .i64 i) ∧ ((-1 ≤ i ∧ i ≤ l.length) ∧ decide (0 ≤ i) = !l.all tFilter) ∧ Keeps w w' [] := by
  have HP := Lib.hid (show IfAt w w b l A 0 from ⟨hL, hx, rfl, Keeps.refl _ _⟩)
  have HLL := Lib.hid hl
  clear hL hx hl
  go_enter Tryd.func47, Tryd.ntmps47
  go_wp2
  go_loopw [5, 8] (fun _ i wr => ∃ k : Nat, k ≤ l.length ∧ i = .int .i64 k ∧ Hid (IfAt w wr b l A k)) (fun _ i _ => l.length - (intOf i).toNat)
  case atStart => exact ⟨0, by omega, rfl, HP⟩
  case round =>
    clear HP
    obtain ⟨k, hk, rfl, HR⟩ := hrel
    by_cases hlt : k < l.length
    · obtain ⟨g, o, rfl, hb, hcx⟩ := HR.out.a.at_ (k := k) (by simpa using hlt)
      rw [List.getElem_map] at hcx
      have HS := Lib.hid (List.take_succ_eq_append_getElem hlt)
      have HM := Lib.hid (List.getElem_mem hlt)
      generalize l[k] = y at *
      have HY := Lib.hid (HLL.out y HM.out)
      obtain ⟨Y, hY⟩ : ∃ S : ByteArray, (⟨y.toArray⟩ : ByteArray) = S := ⟨_, rfl⟩
      have HYY := Lib.hid hY
      rw [hY] at hcx
      clear hY
      by_cases hy : tFilter y = true
      · have HFY := Lib.hid hy
        clear hy
        go_wp2_with (go_at_call 40; rw [← HYY.out]; refine (tAll1_any _ b y HY.out HR.out.x).mono ?_; rintro e w1 ⟨rfl, hk1⟩; rw [HYY.out, HFY.out]; have HK := Lib.hid hk1; clear hk1)
        refine ⟨⟨k + 1, by omega, by go_num, Lib.hid ⟨HR.out.a.keeps HK.out, HR.out.x.keeps HK.out, ?_, HR.out.k.trans HK.out (by simp)⟩⟩, by simp [intOf]; omega⟩
        rw [HS.out, List.all_append, HR.out.z]
        simp [HFY.out]
      · have HFY := Lib.hid (Bool.eq_false_iff.2 hy)
        clear hy
        go_wp2_with (go_at_call 40; rw [← HYY.out]; refine (tAll1_any _ b y HY.out HR.out.x).mono ?_; rintro e w1 ⟨rfl, hk1⟩; rw [HYY.out, HFY.out]; have HK := Lib.hid hk1; clear hk1)
        go_ret
        refine ⟨k, rfl, ⟨by omega, ?_⟩, HR.out.k.trans HK.out (by simp)⟩
        have : l.all tFilter = false := List.all_eq_false.2 ⟨y, HM.out, by rw [HFY.out]; simp⟩
        rw [this]; simp
    · obtain rfl : k = l.length := by omega
      have hz := HR.out.z
      rw [List.take_length] at hz
      have HZ' := Lib.hid hz
      clear hz
      go_wp2
      go_ret
      exact ⟨-1, rfl, ⟨by omega, by rw [HZ'.out]; rfl⟩, HR.out.k⟩
set_option maxRecDepth 100000 in
set_option maxHeartbeats 1000000 in
theorem tAll_any (w : World) (A : Option Addr) (c : Nat) (l : List (List UInt8)) (hL : Lies w w.heap.size A (txL l)) (hlen : l.length ≤ 60000) (hm : MaxL w) (hl : ∀ s ∈ l, s.length ≤ 50000) :
    Calls Tryd.prog 28 #[.func (.func 16) #[] #[], .slice A l.length c] w (TruePost w (l.all tFilter)) := by
  have HP := Lib.hid (And.intro hL (And.intro hm hl))
  clear hL hm hl
  go_enter Tryd.func28, Tryd.ntmps28
  have HX := Lib.hid (show AllBox (w.alloc (.cells #[.func (.func 16) #[] #[]] 26)) w.heap.size from ⟨Row.new _ _ _, HP.out.2.1.keeps (Keeps.alloc _ _)⟩)
  go_wp2_with (first | (go_at_call 39; go_in) | (go_at_call 47; refine (tIdxF_any _ A c w.heap.size l (HP.out.1.keeps (Keeps.alloc _ _)) hlen HX.out HP.out.2.2).mono ?_; rintro e w1 ⟨i, rfl, ⟨⟨hi1, hi2⟩, hi⟩, hk1⟩; have HI := Lib.hid (And.intro hi hk1); clear hi hk1))
  all_goals go_wp2
  all_goals go_ret
  all_goals have hi := HI.out.1
  all_goals (refine ⟨congrArg (fun b => Ending.returned (.bool b)) ?_, (Keeps.alloc _ _).trans HI.out.2 (by simp)⟩)
  all_goals (cases hz : l.all tFilter <;> simp [hz] at hi <;> simp <;> omega)
end Go.Proofs.YtbjoobanbejgbaaDoor
