/- Walks over package meta (layer 6): the greatest of some metas (a range over a function). Walks over package meta (layer 6): Counts. Walks over package meta (layer 6): First. -/
import Derived.Test.YthepcoifcoinoaaPRa32
import Derived.BigRegionIn

namespace Go.Proofs.Ythepcoifcoinoaa
open Go.RowKit Go.Shelf

attribute [local go_sem] Oper.semAt_some

theorem metas_stops (F : Fence) (n : Nat) (hF : F.plain = Fence.wide) (hf : F.fn 72) (hro : F.round = none) (hn : 1 ≤ n) (Bp n₀ pb : Nat) (A B : Option Addr) (c d : Nat) (a b : List UInt8) (w : World)
    (hn₀ : n₀ ≤ w.heap.size) (hpb : pb < n₀) (hBs : Bp < w.heap.size) (hA : Bytes w n₀ (.slice A a.length c) a) (hB : Bytes w n₀ (.slice B b.length d) b)
    (hBp : w.cell? ⟨Bp, 0, none⟩ = some (.slice (some ⟨pb, 0, none⟩) 2 2)) (hp0 : w.cell? ⟨pb, 0, none⟩ = some (.slice A a.length c)) (hp1 : w.cell? ⟨pb, 1, none⟩ = some (.slice B b.length d)) :
    SeqStopsK F n Try.prog 72 #[.pointer (some ⟨Bp, 0, none⟩)] (fun x : List UInt8 => #[mAgg x]) (Below n₀) (fun ys => ys = mSeq a b 2) (fun pre => pre <+: mSeq a b 2) 2 w := fun l J Jx W hW hAb _ hY h0 =>
  metas1_in F n hF hf hro hn l Bp n₀ pb A B c d a b W J Jx hAb (Nat.le_trans hn₀ hW.size) hpb (hA.below (hW.mono hn₀)) (hB.below (hW.mono hn₀)) hY
    ((hW.cell (p := ⟨Bp, 0, none⟩) hBs).trans hBp) ((hW.cell (p := ⟨pb, 0, none⟩) (Nat.lt_of_lt_of_le hpb hn₀)).trans hp0) ((hW.cell (p := ⟨pb, 1, none⟩) (Nat.lt_of_lt_of_le hpb hn₀)).trans hp1) h0

set_option maxRecDepth 100000 in
set_option maxHeartbeats 400000 in
theorem txidOf_any (t r f h : Int) (w : World) :
    Calls Try.prog 56 #[.agg #[.int .i64 t, .int .i64 r, .int .i64 f, .int .i64 h]] w fun e w' => e = .returned (.int .i64 t) ∧ Keeps w w' [] := by
  go_enter Try.func56, Try.ntmps56
  go_wp2
  go_ret
  exact ⟨rfl, Keeps.alloc _ _⟩

/-- The greatest so far. -/
def mStep (o : Option (List UInt8)) (x : List UInt8) : Option (List UInt8) := match o with
  | none => some x
  | some y => if pgTxid y < pgTxid x then some x else some y
def mBest (pre : List (List UInt8)) : Option (List UInt8) := pre.foldl mStep none
theorem mBest_snoc (pre : List (List UInt8)) (x : List UInt8) : mBest (pre ++ [x]) = mStep (mBest pre) x := by simp [mBest]
def mCells (l : List UInt8) : Array Value := #[.int .i64 (pgTxid l), .int .i64 (mbNum l 0 : Nat), .int .i64 (mbNum l 1 : Nat), .int .i64 (mbNum l 2 : Nat)]
def mZeros : Array Value := #[.int .i64 0, .int .i64 0, .int .i64 0, .int .i64 0]
def oCells : Option (List UInt8) → Array Value
  | none => mZeros
  | some l => mCells l

theorem KeepsFrom.of_keeps {w w' : World} (h : Keeps w w' []) (B : Nat) : KeepsFrom B w w' :=
  ⟨h.size, fun k o _ hk _ => (h.block k (Array.getElem?_eq_some_iff.1 hk).1 (by simp)).trans hk⟩
theorem row_own {β : Type} (B g : Nat) (t : TypeId) (f : β → Array Value) : OwnFrom B (fun s W => Row W g t (f s)) :=
  fun _ _ _ _ hs hg hr => hs.own hg (fun r e => (hr r e).2)

/-- What stands while the greatest is looked for. -/
structure GreatSt (N : Nat) (o : Option (List UInt8)) (W : World) : Prop where
  fn : Row W N 97 #[.func (.func 56) #[] #[]]
  out : Row W (N + 1) 49 (oCells o)
  is : Row W (N + 1 + 1) 4 #[.bool o.isSome]

theorem GreatSt.own (B N : Nat) : OwnFrom B (fun pre W => GreatSt N (mBest pre) W) := fun _ _ _ _ hs hg hr =>
  ⟨hs.fn.own hg (fun r e => (hr r e).2), hs.out.own hg (fun r e => (hr r e).2), hs.is.own hg (fun r e => (hr r e).2)⟩

theorem GreatSt.keeps {N : Nat} {o : Option (List UInt8)} {W W' : World} (h : GreatSt N o W) (hk : Keeps W W' []) : GreatSt N o W' := ⟨h.fn.keeps hk, h.out.keeps hk, h.is.keeps hk⟩
theorem GreatSt.set {N : Nat} {o : Option (List UInt8)} {W : World} (h : GreatSt N o W) (x : List UInt8) (_hN : N + 2 < W.heap.size) :
    GreatSt N (some x) (((((W.setCell ⟨N + 1, 0, none⟩ (.int .i64 (pgTxid x))).setCell ⟨N + 1, 1, none⟩ (.int .i64 (mbNum x 0 : Nat))).setCell ⟨N + 1, 2, none⟩ (.int .i64 (mbNum x 1 : Nat))).setCell ⟨N + 1, 3, none⟩ (.int .i64 (mbNum x 2 : Nat))).setCell ⟨N + 1 + 1, 0, none⟩ (.bool true)) := by
  have ho : ∃ p0 p1 p2 p3, oCells o = #[p0, p1, p2, p3] := by cases o <;> exact ⟨_, _, _, _, rfl⟩
  obtain ⟨p0, p1, p2, p3, ho⟩ := ho
  have h1 := h.out
  rw [ho] at h1
  obtain ⟨q1, q2⟩ := meta_put h1 (.int .i64 (pgTxid x)) (.int .i64 (mbNum x 0 : Nat)) (.int .i64 (mbNum x 1 : Nat)) (.int .i64 (mbNum x 2 : Nat))
  exact ⟨(row_far4 h.fn (b := N + 1) (by omega) _ _ _ _).far (p := ⟨N + 1 + 1, 0, none⟩) (by simp; omega) _, q1.far (p := ⟨N + 1 + 1, 0, none⟩) (by simp) _, (row_far4 h.is (b := N + 1) (by omega) _ _ _ _).store 0 (.bool true)⟩
theorem KeepsFrom.put5 {W : World} {N : Nat} (B : Nat) (v0 v1 v2 v3 v4 : Value) : KeepsFrom B W (((((W.setCell ⟨N + 1, 0, none⟩ v0).setCell ⟨N + 1, 1, none⟩ v1).setCell ⟨N + 1, 2, none⟩ v2).setCell ⟨N + 1, 3, none⟩ v3).setCell ⟨N + 1 + 1, 0, none⟩ v4) :=
  (((((KeepsOthers.setCell _ _ _).trans (KeepsOthers.setCell _ _ _)).trans (KeepsOthers.setCell _ _ _)).trans (KeepsOthers.setCell _ _ _)).trans (KeepsOthers.setCell _ _ _)).from B
theorem below_put5 {W : World} {N : Nat} (v0 v1 v2 v3 v4 : Value) : Below N W (((((W.setCell ⟨N + 1, 0, none⟩ v0).setCell ⟨N + 1, 1, none⟩ v1).setCell ⟨N + 1, 2, none⟩ v2).setCell ⟨N + 1, 3, none⟩ v3).setCell ⟨N + 1 + 1, 0, none⟩ v4) :=
  (((((Below.refl N W).setCell (p := ⟨N + 1, 0, none⟩) (by simp) v0).setCell (p := ⟨N + 1, 1, none⟩) (by simp) v1).setCell (p := ⟨N + 1, 2, none⟩) (by simp) v2).setCell (p := ⟨N + 1, 3, none⟩) (by simp) v3).setCell (p := ⟨N + 1 + 1, 0, none⟩) (by simp; omega) v4

set_option maxRecDepth 100000 in
set_option maxHeartbeats 4000000 in
theorem greatest_in (n : Nat) (hn : 3 ≤ n) (Bp pb : Nat) (A B : Option Addr) (c d : Nat) (a b : List UInt8) (w : World) (hpb : pb < w.heap.size) (hBs : Bp < w.heap.size)
    (hA : Bytes w w.heap.size (.slice A a.length c) a) (hB : Bytes w w.heap.size (.slice B b.length d) b)
    (hBp : w.cell? ⟨Bp, 0, none⟩ = some (.slice (some ⟨pb, 0, none⟩) 2 2)) (hp0 : w.cell? ⟨pb, 0, none⟩ = some (.slice A a.length c)) (hp1 : w.cell? ⟨pb, 1, none⟩ = some (.slice B b.length d)) :
    CallsIn Fence.wide n Try.prog 54 #[.func (.func 72) #[] #[.pointer (some ⟨Bp, 0, none⟩)], .func (.func 56) #[] #[]] w fun e W' =>
      e = .returned (.tuple #[.agg (oCells (mBest (mSeq a b 2))), .bool (mBest (mSeq a b 2)).isSome]) ∧ Below w.heap.size w W' := by
  have hn1 : 1 ≤ n := by omega
  have hro : Fence.wide.round = none := rfl
  refine callsIn_of_wp_marks Try.func54 rfl trivial ?_ rfl
  simp only [Try.ntmps54, List.size_toArray, List.length_cons, List.length_nil, Nat.reduceAdd, Nat.reduceSub, Array.replicate_succ, Array.replicate_zero, List.push_toArray, List.append_toArray, List.nil_append, List.cons_append]
  have HA := Lib.hid (And.intro hA (And.intro hB (And.intro hBp (And.intro hp0 hp1))))
  clear hA hB hBp hp0 hp1
  gi_wp2_with fail
  obtain ⟨W, hW, g0, g1, g2, k0, hs0⟩ : ∃ W, W = ((w.alloc (.cells #[.func (.func 56) #[] #[]] 97)).alloc (.cells #[.int .i64 0, .int .i64 0, .int .i64 0, .int .i64 0] 49)).alloc (.cells #[.bool false] 4) ∧
      Row W w.heap.size 97 #[.func (.func 56) #[] #[]] ∧ Row W (w.heap.size + 1) 49 mZeros ∧ Row W (w.heap.size + 1 + 1) 4 #[.bool false] ∧ Keeps w W [] ∧ W.heap.size = w.heap.size + 3 := by
    refine ⟨_, rfl, ((Row.new _ _ _).alloc _).alloc _, ?_, ?_, ((Keeps.alloc _ _).then_alloc _).then_alloc _, by simp⟩
    · have := (Row.new (w.alloc (.cells #[.func (.func 56) #[] #[]] 97)) 49 mZeros).alloc (.cells #[.bool false] 4)
      rwa [World.size_alloc] at this
    · have := Row.new ((w.alloc (.cells #[.func (.func 56) #[] #[]] 97)).alloc (.cells mZeros 49)) 4 #[.bool false]
      rwa [World.size_alloc, World.size_alloc] at this
  rw [← hW]
  clear hW
  have HW := Lib.hid (And.intro g0 (And.intro g1 (And.intro g2 k0)))
  clear g0 g1 g2 k0
  refine wpIn_rangeFunc_ownH hro hn1 (gf := 72) (lb := #[.pointer (some ⟨Bp, 0, none⟩)]) rfl trivial (enters_of Try.func72 (by kernel_rfl) rfl)
    (metas_stops Fence.wide (n - 1) rfl trivial rfl (by omega) Bp w.heap.size pb A B c d a b W HW.out.2.2.2.size hpb (Nat.lt_of_lt_of_le hBs HW.out.2.2.2.size)
      (HA.out.1.below (HW.out.2.2.2.below (Nat.le_refl _) (by simp))) (HA.out.2.1.below (HW.out.2.2.2.below (Nat.le_refl _) (by simp)))
      ((HW.out.2.2.2.cell (p := ⟨Bp, 0, none⟩) hBs (by simp)).trans HA.out.2.2.1) ((HW.out.2.2.2.cell (p := ⟨pb, 0, none⟩) hpb (by simp)).trans HA.out.2.2.2.1) ((HW.out.2.2.2.cell (p := ⟨pb, 1, none⟩) hpb (by simp)).trans HA.out.2.2.2.2))
    belowK_t (belowK_b HW.out.2.2.2.size) (Below.refl _ _) (fun _ => rfl)
    (fun pre W' => GreatSt w.heap.size (mBest pre) W' ∧ Below w.heap.size W W')
    (fun _ _ _ => False)
    (OwnFrom.and (GreatSt.own _ _) (ownFrom_below HW.out.2.2.2.size HW.out.2.2.2.size))
    (fun _ _ _ _ _ hs _ _ => hs)
    ⟨⟨HW.out.1, HW.out.2.1, HW.out.2.2.1⟩, Below.refl _ _⟩
    (fun x a' W' => ∃ g, a' = { tmps := #[.func (.func 72) #[] #[.pointer (some ⟨Bp, 0, none⟩)], .func (.func 56) #[] #[], undef, .pointer (some ⟨w.heap.size, 0, none⟩), .pointer (some ⟨w.heap.size + 1, 0, none⟩), .pointer (some ⟨w.heap.size + 1 + 1, 0, none⟩), .pointer (some ⟨g, 0, none⟩), .func (.func 72) #[] #[.pointer (some ⟨Bp, 0, none⟩)], mAgg x, undef, undef, undef, undef, undef, undef, undef, undef, undef, undef, undef, undef, undef, undef], defers := [] } ∧ Row W' g 49 (mCells x) ∧ W.heap.size ≤ g)
    (fun _ _ _ _ _ _ hs hg hr => by
      obtain ⟨g, h1, h2, h3⟩ := hs
      exact ⟨g, h1, h2.own hg (fun r e => (hr r e).2), h3⟩) ?assign ?body ?done ?stop
  case assign =>
    intro l pre x W1 K hI hK
    unfold mAgg
    gi_wp2
    have hk := Keeps.alloc W1 (.cells (mCells x) 49)
    exact hK _ _ (KeepsFrom.of_keeps hk _) (hk.below (Nat.le_trans HW.out.2.2.2.size hI.2.size) (by simp)) ⟨hI.1.keeps hk, hI.2.trans (hk.below (Nat.le_trans HW.out.2.2.2.size hI.2.size) (by simp))⟩ ⟨_, rfl, Row.new _ _ _, hI.2.size⟩
  case body =>
    rintro l pre x a' W1 hl _ ⟨hG, hB⟩ ⟨g, rfl, hg, hgl⟩ hpre
    have hWs := HW.out.2.2.2.size
    have hs1 := hB.size
    have HS := Lib.hid (mBest_snoc pre x)
    have HG := Lib.hid (And.intro hG (And.intro hB hg))
    clear hG hB hg hpre
    unfold mAgg
    gi_wp2_with fail
    cases hb : mBest pre with
    | none =>
      have HGG := HG.out.1
      rw [hb] at HGG HS
      have HN := Lib.hid (And.intro HGG hb)
      have M0 := fun (W : World) (hW : Keeps W1 W []) => (HN.out.1.is.keeps hW).cell 0
      simp only [Option.isSome] at M0
      clear hb HGG
      refine wpIn_region_keeps rfl _ (by kernel_rfl) rfl (by kernel_rfl) (by kernel_rfl) ?_
      apply loose_is
      · intro W vals hW hkn
        clear hkn
        refine ⟨?_⟩
        simp only [fill]
        go_simp
        first | exact ⟨Keeps.refl _ _, rfl⟩ | exact ⟨Keeps.alloc _ _, rfl⟩
      simp only [addEnt]
      apply loose_is
      · intro W vals hW hkn
        clear hkn
        refine ⟨?_⟩
        simp only [fill]
        go_simp
        first | exact ⟨Keeps.refl _ _, rfl⟩ | exact ⟨Keeps.alloc _ _, rfl⟩
      simp only [addEnt]
      apply loose_is
      · intro W vals hW hkn
        clear hkn
        refine ⟨?_⟩
        simp only [fill]
        go_simp
        first | exact ⟨Keeps.refl _ _, rfl⟩ | exact ⟨Keeps.alloc _ _, rfl⟩
      simp only [addEnt]
      refine loose_off (fun vals => by kernel_rfl) ?_
      simp only [addEnt]
      refine loose_off (fun vals => by kernel_rfl) ?_
      simp only [addEnt]
      refine loose_off (fun vals => by kernel_rfl) ?_
      simp only [addEnt]
      refine loose_off (fun vals => by kernel_rfl) ?_
      simp only [addEnt]
      refine loose_off (fun vals => by kernel_rfl) ?_
      simp only [addEnt]
      refine loose_off (fun vals => by kernel_rfl) ?_
      simp only [addEnt]
      refine loose_off (fun vals => by kernel_rfl) ?_
      simp only [addEnt]
      apply loose_is
      · intro W vals hW hkn
        clear hkn
        refine ⟨?_⟩
        simp only [fill]
        go_simp
        first | exact ⟨Keeps.refl _ _, rfl⟩ | exact ⟨Keeps.alloc _ _, rfl⟩
      simp only [addEnt]
      refine loose_nil (fun W vals hW hkn => ?_)
      simp only [knowsAll] at hkn
      try simp only [and_true] at hkn
      simp only [fill, Act.put, List.setIfInBounds_toArray, List.set_cons_succ, List.set_cons_zero]
      have hk2 := Keeps.then_ (Keeps.refl W1 []) hW
      have r1 := HN.out.1.keeps hW
      have f1 := r1.out.frozen 0
      have f2 := r1.out.frozen 1
      have f3 := r1.out.frozen 2
      have f4 := r1.out.frozen 3
      have f5 := r1.is.frozen 0
      have e5 := r1.is.cell 0
      have gx := HG.out.2.2.keeps hW
      simp only [mCells] at gx
      have q0 := gx.cell 0
      have q1 := gx.cell 1
      have q2 := gx.cell 2
      have q3 := gx.cell 3
      simp only [List.getElem?_toArray, List.getElem?_cons_zero, List.getElem?_cons_succ] at q0 q1 q2 q3
      have gy := r1.out
      have ⟨p0, p1, p2, p3, hp⟩ : ∃ p0 p1 p2 p3, oCells (none) = #[p0, p1, p2, p3] := ⟨_, _, _, _, rfl⟩
      rw [hp] at gy
      have o0 := gy.cell 0
      have o1 := gy.cell 1
      have o2 := gy.cell 2
      have o3 := gy.cell 3
      simp only [List.getElem?_toArray, List.getElem?_cons_zero, List.getElem?_cons_succ] at o0 o1 o2 o3
      have hB2 := HG.out.2.1.trans (hW.below (B := w.heap.size) (by omega) (by simp))
      have hs2 := hW.size
      have hl2 := r1.is.lt
      have HW2 := Lib.hid (And.intro hW hB2)
      clear hk2 r1 gx gy hkn hB2 M0
      gi_wp2
      refine ⟨(KeepsFrom.of_keeps HW2.out.1 _).trans (KeepsFrom.put5 _ _ _ _ _ _), (HW2.out.1.below (B := w.heap.size) (by omega) (by simp)).trans (below_put5 _ _ _ _ _), ?_, HW2.out.2.trans (below_put5 _ _ _ _ _)⟩
      · have := (HN.out.1.keeps hW).set x (by omega)
        rw [HS.out]
        exact this
    | some y =>
      have HGG := HG.out.1
      rw [hb] at HGG HS
      have HN := Lib.hid (And.intro HGG hb)
      have M0 := fun (W : World) (hW : Keeps W1 W []) => (HN.out.1.is.keeps hW).cell 0
      have M1 := fun (W : World) (hW : Keeps W1 W []) => (HN.out.1.fn.keeps hW).cell 0
      have gy := HN.out.1.out
      have gx := HG.out.2.2
      simp only [Option.isSome] at M0
      simp only [oCells, mCells] at gy gx
      have O1 := fun (W : World) (hW : Keeps W1 W []) => (gy.keep hW (by simp)).cell 0
      have O2 := fun (W : World) (hW : Keeps W1 W []) => (gy.keep hW (by simp)).cell 1
      have O3 := fun (W : World) (hW : Keeps W1 W []) => (gy.keep hW (by simp)).cell 2
      have O4 := fun (W : World) (hW : Keeps W1 W []) => (gy.keep hW (by simp)).cell 3
      have P1 := fun (W : World) (hW : Keeps W1 W []) => (gx.keep hW (by simp)).cell 0
      have P2 := fun (W : World) (hW : Keeps W1 W []) => (gx.keep hW (by simp)).cell 1
      have P3 := fun (W : World) (hW : Keeps W1 W []) => (gx.keep hW (by simp)).cell 2
      have P4 := fun (W : World) (hW : Keeps W1 W []) => (gx.keep hW (by simp)).cell 3
      clear hb HGG gy gx
      by_cases hlt : pgTxid y < pgTxid x
      · have d1 : decide (pgTxid y < pgTxid x) = true := by simpa using hlt
        have HL := Lib.hid hlt
        clear hlt
        refine wpIn_region_keeps rfl _ (by kernel_rfl) rfl (by kernel_rfl) (by kernel_rfl) ?_
        apply loose_is
        · intro W vals hW hkn
          clear hkn
          refine ⟨?_⟩
          simp only [fill]
          go_simp
          first | exact ⟨Keeps.refl _ _, rfl⟩ | exact ⟨Keeps.alloc _ _, rfl⟩
        simp only [addEnt]
        apply loose_is
        · intro W vals hW hkn
          clear hkn
          refine ⟨?_⟩
          simp only [fill]
          go_simp
          first | exact ⟨Keeps.refl _ _, rfl⟩ | exact ⟨Keeps.alloc _ _, rfl⟩
        simp only [addEnt]
        apply loose_is
        · intro W vals hW hkn
          clear hkn
          refine ⟨?_⟩
          simp only [fill]
          go_simp
          first | exact ⟨Keeps.refl _ _, rfl⟩ | exact ⟨Keeps.alloc _ _, rfl⟩
        simp only [addEnt]
        apply loose_is
        · intro W vals hW hkn
          clear hkn
          refine ⟨?_⟩
          simp only [fill]
          go_simp
          first | exact ⟨Keeps.refl _ _, rfl⟩ | exact ⟨Keeps.alloc _ _, rfl⟩
        simp only [addEnt]
        apply loose_is
        · intro W vals hW hkn
          clear hkn
          refine ⟨?_⟩
          simp only [fill]
          go_simp
          first | exact ⟨Keeps.refl _ _, rfl⟩ | exact ⟨Keeps.alloc _ _, rfl⟩
        simp only [addEnt]
        apply loose_is
        · intro W vals hW hkn
          clear hkn
          refine ⟨?_⟩
          simp only [fill]
          go_simp
          refine looseUpon_calls ?_
          refine (txidOf_any _ _ _ _ _).mono ?_; rintro e w5 ⟨rfl, hk5⟩; exact ⟨_, rfl, hk5, rfl⟩
        simp only [addEnt]
        apply loose_is
        · intro W vals hW hkn
          clear hkn
          refine ⟨?_⟩
          simp only [fill]
          go_simp
          first | exact ⟨Keeps.refl _ _, rfl⟩ | exact ⟨Keeps.alloc _ _, rfl⟩
        simp only [addEnt]
        apply loose_is
        · intro W vals hW hkn
          clear hkn
          refine ⟨?_⟩
          simp only [fill]
          go_simp
          first | exact ⟨Keeps.refl _ _, rfl⟩ | exact ⟨Keeps.alloc _ _, rfl⟩
        simp only [addEnt]
        apply loose_is
        · intro W vals hW hkn
          clear hkn
          refine ⟨?_⟩
          simp only [fill]
          go_simp
          refine looseUpon_calls ?_
          refine (txidOf_any _ _ _ _ _).mono ?_; rintro e w5 ⟨rfl, hk5⟩; exact ⟨_, rfl, hk5, rfl⟩
        simp only [addEnt]
        apply loose_is
        · intro W vals hW hkn
          clear hkn
          refine ⟨?_⟩
          simp only [fill]
          go_simp
          first | exact ⟨Keeps.refl _ _, rfl⟩ | exact ⟨Keeps.alloc _ _, rfl⟩
        simp only [addEnt]
        apply loose_is
        · intro W vals hW hkn
          clear hkn
          refine ⟨?_⟩
          simp only [fill]
          go_simp
          first | exact ⟨Keeps.refl _ _, rfl⟩ | exact ⟨Keeps.alloc _ _, rfl⟩
        simp only [addEnt]
        refine loose_nil (fun W vals hW hkn => ?_)
        simp only [knowsAll] at hkn
        try simp only [and_true] at hkn
        simp only [fill, Act.put, List.setIfInBounds_toArray, List.set_cons_succ, List.set_cons_zero]
        have hk2 := Keeps.then_ (Keeps.refl W1 []) hW
        have r1 := HN.out.1.keeps hW
        have f1 := r1.out.frozen 0
        have f2 := r1.out.frozen 1
        have f3 := r1.out.frozen 2
        have f4 := r1.out.frozen 3
        have f5 := r1.is.frozen 0
        have e5 := r1.is.cell 0
        have gx := HG.out.2.2.keeps hW
        simp only [mCells] at gx
        have q0 := gx.cell 0
        have q1 := gx.cell 1
        have q2 := gx.cell 2
        have q3 := gx.cell 3
        simp only [List.getElem?_toArray, List.getElem?_cons_zero, List.getElem?_cons_succ] at q0 q1 q2 q3
        have gy := r1.out
        have ⟨p0, p1, p2, p3, hp⟩ : ∃ p0 p1 p2 p3, oCells (some y) = #[p0, p1, p2, p3] := ⟨_, _, _, _, rfl⟩
        rw [hp] at gy
        have o0 := gy.cell 0
        have o1 := gy.cell 1
        have o2 := gy.cell 2
        have o3 := gy.cell 3
        simp only [List.getElem?_toArray, List.getElem?_cons_zero, List.getElem?_cons_succ] at o0 o1 o2 o3
        have hB2 := HG.out.2.1.trans (hW.below (B := w.heap.size) (by omega) (by simp))
        have hs2 := hW.size
        have hl2 := r1.is.lt
        have HW2 := Lib.hid (And.intro hW hB2)
        clear hk2 r1 gx gy hkn hB2 M0
        gi_wp2
        refine ⟨(KeepsFrom.of_keeps HW2.out.1 _).trans (KeepsFrom.put5 _ _ _ _ _ _), (HW2.out.1.below (B := w.heap.size) (by omega) (by simp)).trans (below_put5 _ _ _ _ _), ?_, HW2.out.2.trans (below_put5 _ _ _ _ _)⟩
        · have := (HN.out.1.keeps hW).set x (by omega)
          rw [HS.out, mStep, if_pos HL.out]
          exact this
      · have d1 : decide (pgTxid y < pgTxid x) = false := by simpa using hlt
        have HL := Lib.hid hlt
        clear hlt
        refine wpIn_region_keeps rfl _ (by kernel_rfl) rfl (by kernel_rfl) (by kernel_rfl) ?_
        apply loose_is
        · intro W vals hW hkn
          clear hkn
          refine ⟨?_⟩
          simp only [fill]
          go_simp
          first | exact ⟨Keeps.refl _ _, rfl⟩ | exact ⟨Keeps.alloc _ _, rfl⟩
        simp only [addEnt]
        apply loose_is
        · intro W vals hW hkn
          clear hkn
          refine ⟨?_⟩
          simp only [fill]
          go_simp
          first | exact ⟨Keeps.refl _ _, rfl⟩ | exact ⟨Keeps.alloc _ _, rfl⟩
        simp only [addEnt]
        apply loose_is
        · intro W vals hW hkn
          clear hkn
          refine ⟨?_⟩
          simp only [fill]
          go_simp
          first | exact ⟨Keeps.refl _ _, rfl⟩ | exact ⟨Keeps.alloc _ _, rfl⟩
        simp only [addEnt]
        apply loose_is
        · intro W vals hW hkn
          clear hkn
          refine ⟨?_⟩
          simp only [fill]
          go_simp
          first | exact ⟨Keeps.refl _ _, rfl⟩ | exact ⟨Keeps.alloc _ _, rfl⟩
        simp only [addEnt]
        apply loose_is
        · intro W vals hW hkn
          clear hkn
          refine ⟨?_⟩
          simp only [fill]
          go_simp
          first | exact ⟨Keeps.refl _ _, rfl⟩ | exact ⟨Keeps.alloc _ _, rfl⟩
        simp only [addEnt]
        apply loose_is
        · intro W vals hW hkn
          clear hkn
          refine ⟨?_⟩
          simp only [fill]
          go_simp
          refine looseUpon_calls ?_
          refine (txidOf_any _ _ _ _ _).mono ?_; rintro e w5 ⟨rfl, hk5⟩; exact ⟨_, rfl, hk5, rfl⟩
        simp only [addEnt]
        apply loose_is
        · intro W vals hW hkn
          clear hkn
          refine ⟨?_⟩
          simp only [fill]
          go_simp
          first | exact ⟨Keeps.refl _ _, rfl⟩ | exact ⟨Keeps.alloc _ _, rfl⟩
        simp only [addEnt]
        apply loose_is
        · intro W vals hW hkn
          clear hkn
          refine ⟨?_⟩
          simp only [fill]
          go_simp
          first | exact ⟨Keeps.refl _ _, rfl⟩ | exact ⟨Keeps.alloc _ _, rfl⟩
        simp only [addEnt]
        apply loose_is
        · intro W vals hW hkn
          clear hkn
          refine ⟨?_⟩
          simp only [fill]
          go_simp
          refine looseUpon_calls ?_
          refine (txidOf_any _ _ _ _ _).mono ?_; rintro e w5 ⟨rfl, hk5⟩; exact ⟨_, rfl, hk5, rfl⟩
        simp only [addEnt]
        apply loose_is
        · intro W vals hW hkn
          clear hkn
          refine ⟨?_⟩
          simp only [fill]
          go_simp
          first | exact ⟨Keeps.refl _ _, rfl⟩ | exact ⟨Keeps.alloc _ _, rfl⟩
        simp only [addEnt]
        apply loose_is
        · intro W vals hW hkn
          clear hkn
          refine ⟨?_⟩
          simp only [fill]
          go_simp
          first | exact ⟨Keeps.refl _ _, rfl⟩ | exact ⟨Keeps.alloc _ _, rfl⟩
        simp only [addEnt]
        refine loose_nil (fun W vals hW hkn => ?_)
        simp only [knowsAll] at hkn
        try simp only [and_true] at hkn
        simp only [fill, Act.put, List.setIfInBounds_toArray, List.set_cons_succ, List.set_cons_zero]
        have hB2 := HG.out.2.1.trans (hW.below (B := w.heap.size) (by omega) (by simp))
        have HW2 := Lib.hid (And.intro hW hB2)
        clear hW hkn hB2 M0 M1 O1 O2 O3 O4 P1 P2 P3 P4
        gi_wp2
        refine ⟨KeepsFrom.of_keeps HW2.out.1 _, HW2.out.1.below (by omega) (by simp), ?_, HW2.out.2⟩
        rw [HS.out, mStep, if_neg (by have := HL.out; omega)]
        exact HN.out.1.keeps HW2.out.1
  case done =>
    rintro D ys W1 hD rfl ⟨hG, hB⟩ hK
    have HD := Lib.hid (And.intro hG (And.intro hB (And.intro hK hD)))
    have ⟨p0, p1, p2, p3, hp⟩ : ∃ p0 p1 p2 p3 : Int, oCells (mBest (mSeq a b 2)) = #[.int .i64 p0, .int .i64 p1, .int .i64 p2, .int .i64 p3] := by cases mBest (mSeq a b 2) <;> exact ⟨_, _, _, _, rfl⟩
    have gy := hG.out
    rw [hp] at gy
    have o0 := gy.cell 0
    have o1 := gy.cell 1
    have o2 := gy.cell 2
    have o3 := gy.cell 3
    simp only [List.getElem?_toArray, List.getElem?_cons_zero, List.getElem?_cons_succ] at o0 o1 o2 o3
    have f0 := gy.frozen 0
    have f1 := gy.frozen 1
    have f2 := gy.frozen 2
    have f3 := gy.frozen 3
    have e5 := hG.is.cell 0
    have f5 := hG.is.frozen 0
    have hl5 := hG.is.lt
    have HP := Lib.hid hp
    clear hG hB hK hp gy
    gi_wp2
    gi_region
    all_goals
      gi_wp2
      have hG := HD.out.1
      have hD1 := HD.out.2.2.2
      have hWs := HW.out.2.2.2.size
      have ho := hG.out
      rw [HP.out] at ho
      obtain ⟨q1, q2⟩ := meta_put ho (.int .i64 p0) (.int .i64 p1) (.int .i64 p2) (.int .i64 p3)
      have q1' := q1.far (p := ⟨w.heap.size + 1 + 1, 0, none⟩) (by simp) (.bool (mBest (mSeq a b 2)).isSome)
      have q3 := (row_far4 hG.is (b := w.heap.size + 1) (by omega) (.int .i64 p0) (.int .i64 p1) (.int .i64 p2) (.int .i64 p3)).store 0 (.bool (mBest (mSeq a b 2)).isSome)
      have q4 := below_put5 (W := W1) (N := w.heap.size) (.int .i64 p0) (.int .i64 p1) (.int .i64 p2) (.int .i64 p3) (.bool (mBest (mSeq a b 2)).isSome)
      have hDn : ∀ b' : Nat, b' < w.heap.size + 3 → D ≠ b' := fun b' hb' => by omega
      have hK2 : ((((((W1.setCell ⟨w.heap.size + 1, 0, none⟩ (.int .i64 p0)).setCell ⟨w.heap.size + 1, 1, none⟩ (.int .i64 p1)).setCell ⟨w.heap.size + 1, 2, none⟩ (.int .i64 p2)).setCell ⟨w.heap.size + 1, 3, none⟩ (.int .i64 p3)).setCell ⟨w.heap.size + 1 + 1, 0, none⟩ (.bool (mBest (mSeq a b 2)).isSome)).drew).heap[D]? = some (.deferred (some [])) := by
        show ((((((W1.setCell ⟨w.heap.size + 1, 0, none⟩ (.int .i64 p0)).setCell ⟨w.heap.size + 1, 1, none⟩ (.int .i64 p1)).setCell ⟨w.heap.size + 1, 2, none⟩ (.int .i64 p2)).setCell ⟨w.heap.size + 1, 3, none⟩ (.int .i64 p3)).setCell ⟨w.heap.size + 1 + 1, 0, none⟩ (.bool (mBest (mSeq a b 2)).isSome))).heap[D]? = some (.deferred (some []))
        rw [Below.heap_setCell _ _ _ _ (hDn _ (by simp)), Below.heap_setCell _ _ _ _ (hDn _ (by simp)), Below.heap_setCell _ _ _ _ (hDn _ (by simp)), Below.heap_setCell _ _ _ _ (hDn _ (by simp)), Below.heap_setCell _ _ _ _ (hDn _ (by simp))]
        exact HD.out.2.2.1
      have kb : Below w.heap.size w (((((W1.setCell ⟨w.heap.size + 1, 0, none⟩ (.int .i64 p0)).setCell ⟨w.heap.size + 1, 1, none⟩ (.int .i64 p1)).setCell ⟨w.heap.size + 1, 2, none⟩ (.int .i64 p2)).setCell ⟨w.heap.size + 1, 3, none⟩ (.int .i64 p3)).setCell ⟨w.heap.size + 1 + 1, 0, none⟩ (.bool (mBest (mSeq a b 2)).isSome)).drew :=
        (((HW.out.2.2.2.below (Nat.le_refl _) (by simp)).trans HD.out.2.1).trans q4).drew
      rw [HP.out]
      revert q1' q3 hK2 kb
      generalize (((((W1.setCell ⟨w.heap.size + 1, 0, none⟩ (.int .i64 p0)).setCell ⟨w.heap.size + 1, 1, none⟩ (.int .i64 p1)).setCell ⟨w.heap.size + 1, 2, none⟩ (.int .i64 p2)).setCell ⟨w.heap.size + 1, 3, none⟩ (.int .i64 p3)).setCell ⟨w.heap.size + 1 + 1, 0, none⟩ (.bool (mBest (mSeq a b 2)).isSome)) = W2
      intro q1' q3 hK2 kb
      refine ⟨by simp, .inl ⟨_, _, rfl, run_takeDeferred hK2, ?_⟩⟩
      have kp : Keeps W2.drew (W2.drew.putObj D (.deferred none)) [D] := Keeps.of_grown (grownBy_putObj' W2.drew D _)
      have z1 := Row.keep (w := W2.drew) q1' kp (by simp; omega)
      have z3 := Row.keep (w := W2.drew) q3 kp (by simp; omega)
      have c0 := z1.cell 0
      have c1 := z1.cell 1
      have c2 := z1.cell 2
      have c3 := z1.cell 3
      have d0 := z3.cell 0
      simp at c0 c1 c2 c3 d0
      refine ⟨_, ?_, rfl, kb.trans (kp.below (by have := kb.size; omega) (by simp; omega))⟩
      simp [results, Try.results54, go_sem, c0, c1, c2, c3, d0]
  case stop =>
    rintro D c pre W _ _ h _
    exact h.elim
end Go.Proofs.Ythepcoifcoinoaa

namespace Go.Proofs.Ythepcoifcoinoaa
open Go.RowKit

theorem mBest_two (a b : List UInt8) : Value.agg (oCells (mBest (mSeq a b 2))) = mcV a b ∧ (mBest (mSeq a b 2)).isSome = mcIs a b := by
  by_cases h1 : mpErr 0 a = 0 <;> by_cases h2 : mpErr 1 b = 0
  · by_cases h3 : pgTxid a < pgTxid b <;> simp [mBest, mSeq, mStep, h1, h2, h3, mcV, mcIs, mcB, oCells, mCells, mAgg]
  · simp [mBest, mSeq, mStep, h1, h2, mcV, mcIs, mcB, oCells, mCells, mAgg]
  · simp [mBest, mSeq, mStep, h1, h2, mcV, mcIs, mcB, oCells, mCells, mAgg]
  · simp [mBest, mSeq, h1, h2, mcV, mcIs, mcB, oCells, mZeros, mZero]
theorem mcV_ints (a b : List UInt8) : ∃ p0 p1 p2 p3 : Int, mcV a b = .agg #[.int .i64 p0, .int .i64 p1, .int .i64 p2, .int .i64 p3] := by
  unfold mcV
  split
  · exact ⟨_, _, _, _, rfl⟩
  · split <;> exact ⟨_, _, _, _, rfl⟩
theorem mcV_none {a b : List UInt8} (h : mcIs a b = false) : mcV a b = mZero := by
  simp only [mcIs, Bool.or_eq_false_iff] at h
  unfold mcV
  rw [h.1]
  simp at h
  simp [h.2]
def mcErr (a b : List UInt8) : Int := if mcIs a b then 0 else 160
theorem mCounts_door (W : World) (t : Array Value) (b : Nat) (x0 x1 x2 x3 y : Value) (h4 : t.getD 4 undef = .pointer (some ⟨b, 0, none⟩)) (h5 : t.getD 5 undef = y)
    (r : Row W b 49 #[x0, x1, x2, x3]) (R : Ending → World → Prop) (hR : R (.returned (.tuple #[.agg #[x0, x1, x2, x3], y])) W) :
    bodyPost Try.prog Try.f25 R Exit.ret { tmps := t, defers := [] } W := by
  have c0 := r.cell 0
  have c1 := r.cell 1
  have c2 := r.cell 2
  have c3 := r.cell 3
  rw [Array.getD_eq_getD_getElem?] at h4 h5
  simp at c0 c1 c2 c3
  refine bodyPost_ret (v := .tuple #[.agg #[x0, x1, x2, x3], y]) ?_ rfl hR
  simp [results, Try.results25, go_sem, h4, h5, c0, c1, c2, c3]
theorem below_keeps {w w' : World} (h : Below w.heap.size w w') : Keeps w w' [] := Keeps.of_below h

set_option maxRecDepth 100000 in
set_option maxHeartbeats 4000000 in
theorem mCounts_any (w : World) (A B : Option Addr) (c d : Nat) (a b : List UInt8) (hA : Bytes w w.heap.size (.slice A a.length c) a) (hB : Bytes w w.heap.size (.slice B b.length d) b) :
    Calls Try.prog 25 #[.slice A a.length c, .slice B b.length d] w fun e w' => e = .returned (.tuple #[mcV a b, .int .i64 (mcErr a b)]) ∧ Keeps w w' [] := by
  have HA := Lib.hid (And.intro hA hB)
  have hl1 := hA.len
  have hl2 := hB.len
  clear hA hB
  go_enter Try.func25, Try.ntmps25
  go_wp2_with fail
  obtain ⟨W, hW, r0, r1, k1, hs⟩ : ∃ W, W = (w.alloc (.cells #[.int .i64 0, .int .i64 0, .int .i64 0, .int .i64 0] 49)).alloc (.cells #[.slice A a.length c, .slice B b.length d] 22) ∧
      Row W w.heap.size 49 #[.int .i64 0, .int .i64 0, .int .i64 0, .int .i64 0] ∧ Row W (w.heap.size + 1) 22 #[.slice A a.length c, .slice B b.length d] ∧ Keeps w W [] ∧ W.heap.size = w.heap.size + 2 := by
    refine ⟨_, rfl, (Row.new _ _ _).alloc _, ?_, (Keeps.alloc _ _).then_alloc _, by simp⟩
    have := Row.new (w.alloc (.cells #[.int .i64 0, .int .i64 0, .int .i64 0, .int .i64 0] 49)) 22 #[.slice A a.length c, .slice B b.length d]
    rwa [World.size_alloc] at this
  rw [← hW]
  clear hW
  refine (callsIn_wide.1 (metas_in Fence.wide 0 trivial rfl _ _ _ W)).mono ?_
  rintro e w2 ⟨rfl, rfl⟩
  have k2 := Keeps.alloc W (.cells #[.slice (some ⟨w.heap.size + 1, 0, none⟩) 2 2] 115)
  have r2 := Row.new W 115 #[.slice (some ⟨w.heap.size + 1, 0, none⟩) 2 2]
  have H2 := Lib.hid (And.intro (r0.keeps k2) (And.intro (r1.keeps k2) (And.intro (k1.then_ k2) r2)))
  clear r0 r1 k1 k2 r2
  go_wp2_with fail
  obtain ⟨W3, hW3⟩ : ∃ W3, W.alloc (.cells #[.slice (some ⟨w.heap.size + 1, 0, none⟩) 2 2] 115) = W3 := ⟨_, rfl⟩
  rw [hW3] at H2 ⊢
  have hs3 : W3.heap.size = w.heap.size + 3 := by rw [← hW3, World.size_alloc, hs]
  clear hW3
  refine (callsIn_wide.1 (greatest_in 3 (by omega) (w.heap.size + 2) (w.heap.size + 1) A B c d a b W3 (by omega) (by omega) (HA.out.1.keeps H2.out.2.2.1) (HA.out.2.keeps H2.out.2.2.1) (by have := H2.out.2.2.2.cell 0; rw [hs] at this; exact this) (H2.out.2.1.cell 0) (H2.out.2.1.cell 1))).mono ?_
  rintro e w4 ⟨rfl, hb⟩
  rw [(mBest_two a b).1, (mBest_two a b).2]
  have k4 := below_keeps hb
  have r4 := H2.out.1.keeps k4
  have H4 := Lib.hid (And.intro r4 (H2.out.2.2.1.then_ k4))
  have hlt := r4.lt
  have c0 := r4.cell 0
  have c1 := r4.cell 1
  have c2 := r4.cell 2
  have c3 := r4.cell 3
  simp only [List.getElem?_toArray, List.getElem?_cons_zero, List.getElem?_cons_succ] at c0 c1 c2 c3
  have g0 := r4.frozen 0
  have g1 := r4.frozen 1
  have g2 := r4.frozen 2
  have g3 := r4.frozen 3
  clear hb k4 r4
  cases hi : mcIs a b
  · rw [mcV_none hi]
    unfold mZero
    have HI := Lib.hid (And.intro (mcV_none hi) (show mcErr a b = 160 by simp [mcErr, hi]))
    clear hi
    go_wp2_with fail
    obtain ⟨pp1, pp2⟩ := meta_put H4.out.1 (.int .i64 0) (.int .i64 0) (.int .i64 0) (.int .i64 0)
    exact mCounts_door _ _ w.heap.size _ _ _ _ (.int .i64 160) rfl rfl (by first | exact pp1.alloc _ | exact pp1) _ ⟨by (rw [HI.out.1, HI.out.2]; try rfl), by first | exact (H4.out.2.trans pp2 (fun x hx hl => by simp at hx; omega)).then_alloc _ | exact H4.out.2.trans pp2 (fun x hx hl => by simp at hx; omega)⟩
  · obtain ⟨p0, p1, p2, p3, hp⟩ := mcV_ints a b
    rw [hp]
    have HI := Lib.hid (And.intro hp (show mcErr a b = 0 by simp [mcErr, hi]))
    clear hi hp
    go_wp2_with fail
    obtain ⟨pp1, pp2⟩ := meta_put H4.out.1 (.int .i64 p0) (.int .i64 p1) (.int .i64 p2) (.int .i64 p3)
    exact mCounts_door _ _ w.heap.size _ _ _ _ (.int .i64 0) rfl rfl (by first | exact pp1.alloc _ | exact pp1) _ ⟨by (rw [HI.out.1, HI.out.2]; try rfl), by first | exact (H4.out.2.trans pp2 (fun x hx hl => by simp at hx; omega)).then_alloc _ | exact H4.out.2.trans pp2 (fun x hx hl => by simp at hx; omega)⟩
end Go.Proofs.Ythepcoifcoinoaa

namespace Go.Proofs.Ythepcoifcoinoaa
open Go.RowKit

theorem mFirst_door (W : World) (t : Array Value) (b : Nat) (x0 x1 : Value) (h4 : t.getD 0 undef = .pointer (some ⟨b, 0, none⟩))
    (r : Row W b 65 #[x0, x1]) (R : Ending → World → Prop) (hR : R (.returned (.agg #[x0, x1])) W) :
    bodyPost Try.prog Try.f34 R Exit.ret { tmps := t, defers := [] } W := by
  have c0 := r.cell 0
  have c1 := r.cell 1
  rw [Array.getD_eq_getD_getElem?] at h4
  simp at c0 c1
  refine bodyPost_ret (v := .agg #[x0, x1]) ?_ rfl hR
  simp [results, Try.results34, go_sem, h4, c0, c1]

/-- Two slices of 256 bytes each of the call's own. -/
structure Twins (W : World) (base b o c b' o' c' : Nat) (l l' : List UInt8) : Prop where
  one : Full W base b o c l
  two : Full W base b' o' c' l'
  ne : b ≠ b'
theorem Twins.keep {W W' : World} {base b o c b' o' c' : Nat} {l l' : List UInt8} {S : List Nat} (h : Twins W base b o c b' o' c' l l') (hk : Keeps W W' S) (h1 : b ∉ S) (h2 : b' ∉ S) : Twins W' base b o c b' o' c' l l' :=
  ⟨h.one.keep hk h1, h.two.keep hk h2, h.ne⟩
theorem metaFirst_ok (t : Int) (ht : t = 0 ∨ t = 1) : metaOk t 0 0 2 = true := by rcases ht with rfl | rfl <;> decide

def FirstSt (N B : Nat) (j : Nat) (W wr : World) : Prop :=
  Keeps W wr [N] ∧ ((j = 0 ∧ Row wr N 65 #[.slice none 0 0, .slice none 0 0]) ∨
    (j = 1 ∧ ∃ b o c, Row wr N 65 #[.slice (some ⟨b, o, none⟩) 256 c, .slice none 0 0] ∧ Full wr B b o c (metaRaw 0 0 0 2)) ∨
    (j = 2 ∧ ∃ b o c b' o' c', Row wr N 65 #[.slice (some ⟨b, o, none⟩) 256 c, .slice (some ⟨b', o', none⟩) 256 c'] ∧ Twins wr B b o c b' o' c' (metaRaw 0 0 0 2) (metaRaw 1 0 0 2)))

set_option maxRecDepth 100000 in
set_option maxHeartbeats 4000000 in
theorem mFirst_any (w : World) :
    Calls Try.prog 34 #[] w fun e w' => ∃ b o c b' o' c', e = .returned (.agg #[.slice (some ⟨b, o, none⟩) 256 c, .slice (some ⟨b', o', none⟩) 256 c']) ∧ Twins w' w.heap.size b o c b' o' c' (metaRaw 0 0 0 2) (metaRaw 1 0 0 2) ∧ Keeps w w' [] := by
  go_enter Try.func34, Try.ntmps34
  go_wp2_with fail
  obtain ⟨W, hW, r0, r1, k1, hs⟩ : ∃ W, W = (w.alloc (.cells #[.slice none 0 0, .slice none 0 0] 65)).alloc (.cells #[.slice none 0 0, .slice none 0 0] 65) ∧
      Row W w.heap.size 65 #[.slice none 0 0, .slice none 0 0] ∧ Row W (w.heap.size + 1) 65 #[.slice none 0 0, .slice none 0 0] ∧ Keeps w W [] ∧ w.heap.size + 2 ≤ W.heap.size := by
    refine ⟨_, rfl, (Row.new _ _ _).alloc _, ?_, (Keeps.alloc _ _).then_alloc _, by simp⟩
    have := Row.new (w.alloc (.cells #[.slice none 0 0, .slice none 0 0] 65)) 65 #[.slice none 0 0, .slice none 0 0]
    rwa [World.size_alloc] at this
  rw [← hW]
  clear hW
  have H1 := Lib.hid (And.intro r0 k1)
  clear r0 k1
  go_loopw [3] (fun i wr => ∃ j : Nat, j ≤ 2 ∧ i = .int .i64 j ∧ FirstSt (w.heap.size + 1) W.heap.size j W wr) (fun i _ => 2 - (intOf i).toNat)
  case atStart => exact ⟨0, by omega, rfl, Keeps.refl _ _, .inl ⟨rfl, r1⟩⟩
  case round =>
    obtain ⟨j, hj, rfl, hk, hst⟩ := hrel
    have hsz := hk.size
    rcases hst with ⟨rfl, hr⟩ | ⟨rfl, b, o, c, hr, hf⟩ | ⟨rfl, b, o, c, b', o', c', hr, ht⟩
    · have HR := Lib.hid (And.intro hk hr)
      clear hk hr r1
      go_wp2_with fail
      refine (mRaw_yes 0 0 0 2 wr (by decide)).mono ?_
      rintro e w2 ⟨b, o, c, rfl, hf, hk2⟩
      have r2 := HR.out.2.keeps hk2
      have HF := Lib.hid (And.intro (hf.mono hsz) (And.intro (HR.out.1.then_ hk2) (And.intro r2 hf.low)))
      have c0 := r2.cell 0
      have g0 := r2.frozen 0
      have hl := r2.lt
      clear hf hk2 r2
      go_wp2_with fail
      have ks := Keeps.setCell w2 ⟨w.heap.size + 1, 0, none⟩ (.slice (some ⟨b, o, none⟩) 256 c)
      have hlow := HF.out.2.2.2
      refine ⟨⟨1, by omega, by go_num, HF.out.2.1.trans ks (by simp), .inr (.inl ⟨rfl, b, o, c, HF.out.2.2.1.store 0 _, HF.out.1.keep ks (by simp; omega)⟩)⟩, by simp [intOf]⟩
    · have HR := Lib.hid (And.intro hk (And.intro hr hf))
      clear hk hr r1 hf
      go_wp2_with fail
      refine (mRaw_yes 1 0 0 2 wr (by decide)).mono ?_
      rintro e w2 ⟨b', o', c', rfl, hf, hk2⟩
      have r2 := HR.out.2.1.keeps hk2
      have hlt := HR.out.2.2.lt
      have hlo := HR.out.2.2.low
      have HF := Lib.hid (And.intro (hf.mono hsz) (And.intro (HR.out.1.then_ hk2) (And.intro r2 (And.intro hf.low (HR.out.2.2.keeps hk2)))))
      have c0 := r2.cell 1
      have g0 := r2.frozen 1
      have hl := r2.lt
      clear hf hk2 r2
      go_wp2_with fail
      have ks := Keeps.setCell w2 ⟨w.heap.size + 1, 1, none⟩ (.slice (some ⟨b', o', none⟩) 256 c')
      have hlow := HF.out.2.2.2.1
      refine ⟨⟨2, by omega, by go_num, HF.out.2.1.trans ks (by simp), .inr (.inr ⟨rfl, b, o, c, b', o', c', HF.out.2.2.1.store 1 _, ⟨HF.out.2.2.2.2.keep ks (by simp; omega), HF.out.1.keep ks (by simp; omega), by omega⟩⟩)⟩, by simp [intOf]⟩
    · have r0 := H1.out.1.keep hk (by simp)
      have HR := Lib.hid (And.intro r0 (And.intro ht (H1.out.2.trans hk (fun x hx hl => by simp at hx; omega))))
      have c0 := r0.cell 0
      have c1 := r0.cell 1
      have g0 := r0.frozen 0
      have g1 := r0.frozen 1
      have d0 := hr.cell 0
      have d1 := hr.cell 1
      have hl := r0.lt
      clear r0 r1 hr ht hk
      go_wp2_with fail
      have k0 := Keeps.setCell wr ⟨w.heap.size, 0, none⟩ (.slice (some ⟨b, o, none⟩) 256 c)
      have k1 := Keeps.setCell (wr.setCell ⟨w.heap.size, 0, none⟩ (.slice (some ⟨b, o, none⟩) 256 c)) ⟨w.heap.size, 1, none⟩ (.slice (some ⟨b', o', none⟩) 256 c')
      have q := (HR.out.1.store 0 (.slice (some ⟨b, o, none⟩) 256 c)).store 1 (.slice (some ⟨b', o', none⟩) 256 c')
      have hlo := HR.out.2.1.one.low
      have hlo' := HR.out.2.1.two.low
      have t2 := (HR.out.2.1.keep k0 (by simp; omega) (by simp; omega)).keep k1 (by simp; omega) (by simp; omega)
      exact mFirst_door _ _ w.heap.size _ _ rfl q _ ⟨b, o, c, b', o', c', rfl, ⟨t2.one.mono (by omega), t2.two.mono (by omega), t2.ne⟩, (HR.out.2.2.trans k0 (fun x hx hl => by simp at hx; omega)).trans k1 (fun x hx hl => by simp at hx; omega)⟩
end Go.Proofs.Ythepcoifcoinoaa
