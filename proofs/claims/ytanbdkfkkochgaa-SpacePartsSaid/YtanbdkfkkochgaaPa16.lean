/- Package space: the pages of a place, collected. Package space: Free, New, Held, Will. Package space: lists of pages; Give, copies, Undo. -/
import Derived.Test.YtanbdkfkkochgaaPa15
import Derived.Maps.OwnIn
import Derived.TacticsInMore

namespace Go.Proofs.Ytanbdkfkkochgaa
open Go.RowKit Go.Maps Go.Shelf

attribute [local go_sem] Oper.semAt_some

theorem of1_stops (F : Fence) (n : Nat) (hF : F.plain = Fence.wide) (hf : F.fn 40) (hro : F.round = none) (hn : 1 ≤ n) (n₀ N1 Bx Bs Bi s m1 g : Nat) (lb : Array Value) (L : List Nat) (p : Nat → Bool) (hp : ∀ v, p v = true → 2 ≤ v) (hok : SpOk L)
    (eg : ∀ args w, (callFunc g args).run Try.prog w = .ok (.enter g args) w) (w : World) (hn₀ : n₀ ≤ w.heap.size) (hN1 : N1 ≤ w.heap.size) (hBx : Bx < w.heap.size) (hX : ∀ k, ¬ OwnB Bx w k) (hO : OfAt w n₀ Bs Bi s m1 g lb L p) :
    SeqStopsK F n Try.prog 40 #[.pointer (some ⟨Bs, 0, none⟩), .pointer (some ⟨Bi, 0, none⟩)] (fun x : Int => #[Value.int .i64 x]) (KpC n₀ N1 Bx) (fun ys => ys = spSel p L) (fun pre => pre <+: spSel p L) 4097 w := fun l J Jx W hW hAb _ hY h0 =>
  of1_in F n hF hf hro hn l n₀ N1 Bx Bs Bi s m1 g lb L p hp hok eg W J Jx hAb (Nat.le_trans hn₀ hW.size) (Nat.le_trans hN1 hW.size) (Nat.lt_of_lt_of_le hBx hW.size) (fun k _ ho => hX k (ho.of_cell (hW.cell (p := ⟨Bx, 0, none⟩) hBx))) (hO.below (hW.mono hn₀)) (fun pre x W1 a b _ => hY pre x W1 a b) h0

/-- A page's number. -/
abbrev PageNo := {x : Int // 0 ≤ x ∧ x < 4096}
theorem of1_stopsP (F : Fence) (n : Nat) (hF : F.plain = Fence.wide) (hf : F.fn 40) (hro : F.round = none) (hn : 1 ≤ n) (n₀ N1 Bx Bs Bi s m1 g : Nat) (lb : Array Value) (L : List Nat) (p : Nat → Bool) (hp : ∀ v, p v = true → 2 ≤ v) (hok : SpOk L)
    (eg : ∀ args w, (callFunc g args).run Try.prog w = .ok (.enter g args) w) (w : World) (hn₀ : n₀ ≤ w.heap.size) (hN1 : N1 ≤ w.heap.size) (hBx : Bx < w.heap.size) (hX : ∀ k, ¬ OwnB Bx w k) (hO : OfAt w n₀ Bs Bi s m1 g lb L p) :
    SeqStopsK F n Try.prog 40 #[.pointer (some ⟨Bs, 0, none⟩), .pointer (some ⟨Bi, 0, none⟩)] (fun x : PageNo => #[Value.int .i64 x.1]) (KpC n₀ N1 Bx) (fun ys => ys.map (fun x => x.1) = spSel p L) (fun pre => pre.map (fun x => x.1) <+: spSel p L) 4097 w := fun l J Jx W hW hAb _ hY h0 => by
  refine (of1_in F n hF hf hro hn l n₀ N1 Bx Bs Bi s m1 g lb L p hp hok eg W (fun ys W => ∃ zs : List PageNo, zs.map (fun x => x.1) = ys ∧ J zs W) (fun ys W => ∃ zs : List PageNo, zs.map (fun x => x.1) = ys ∧ Jx zs W) ?_ (Nat.le_trans hn₀ hW.size) (Nat.le_trans hN1 hW.size) (Nat.lt_of_lt_of_le hBx hW.size) (fun k _ ho => hX k (ho.of_cell (hW.cell (p := ⟨Bx, 0, none⟩) hBx))) (hO.below (hW.mono hn₀)) ?_ ⟨[], rfl, h0⟩).mono ?_
  · rintro ys A B row ⟨zs, h1, h2⟩ hg hr
    exact ⟨zs, h1, hAb zs A B row h2 hg hr⟩
  · rintro pre x W1 ⟨zs, rfl, h2⟩ hl hx
    obtain ⟨fn, tmps, assign, body, hy, hR⟩ := hY zs ⟨x, hx⟩ W1 h2 (by simpa using hl)
    refine ⟨fn, tmps, assign, body, hy, hR.mono ?_⟩
    rintro e W' (⟨h1, h2, h3⟩ | ⟨h1, h2⟩)
    · exact .inl ⟨h1, ⟨zs ++ [⟨x, hx⟩], by simp, h2⟩, h3⟩
    · exact .inr ⟨h1, ⟨zs ++ [⟨x, hx⟩], by simp, h2⟩⟩
  · rintro e W' ⟨h1, ⟨ys, h2, zs, h3, h4⟩ | ⟨pre, h2, zs, h3, h4⟩⟩
    · exact ⟨h1, .inl ⟨zs, h3.trans h2, h4⟩⟩
    · exact ⟨h1, .inr ⟨zs, by subst h3; exact h2, h4⟩⟩
theorem infoI64 : (Try.prog.info? 2).map (fun i => (i.zero, i.size, i.bytes)) = some (some (.int .i64 0), 1, 8) := by kernel_rfl
theorem undI64s : Try.prog.underlying 23 = some (.slice 2) := by kernel_rfl
/-- One more is appended: what the iterator may lean on. -/
theorem kpC_append {W w1 : World} {n₀ B : Nat} {t e : TypeId} {size : Nat} {v v' : Value} {k m : Nat} {xs ys : List Value} {tmp : Obj}
    (hv : Boxed W B t v) (_hte : t ≠ e) (hrow : W.ownsRow n₀ e size v k xs) (_hown' : w1.ownsRow n₀ e size v' m ys) (hgrow : (W.alloc tmp).grownBy w1 v.ownBlock)
    (hb2 : Below n₀ W (w1.setCell ⟨B, 0, none⟩ v')) (hv2 : Boxed (w1.setCell ⟨B, 0, none⟩ v') B t v') (hbl : v'.ownBlock = v.ownBlock ∨ v'.ownBlock = some (W.alloc tmp).heap.size) : KpC n₀ (B + 1) B W (w1.setCell ⟨B, 0, none⟩ v') := by
  refine ⟨hb2, fun j cs t d hj hc hno => ?_⟩
  have hlt : j < W.heap.size := (Array.getElem?_eq_some_iff.1 hc).1
  have hjv : v.ownBlock ≠ some j := by
    intro he
    apply hno
    rcases hrow.2 with ⟨rfl, _⟩ | ⟨g, cap, cur, rfl, _⟩
    · simp [Value.ownBlock] at he
    · obtain rfl : g = j := by simpa [Value.ownBlock] using he
      exact ⟨_, _, hv.cell⟩
  constructor
  · have h1 : (w1.setCell ⟨B, 0, none⟩ v').heap[j]? = w1.heap[j]? := Below.heap_setCell _ _ _ _ (by simp; omega)
    rw [h1, hgrow.block j (by simp; omega) (fun e => hjv e.symm)]
    exact (Below.heap_alloc W tmp j hlt).trans hc
  · rintro ⟨n, c, ho⟩
    rw [hv2.cell] at ho
    have he : v'.ownBlock = some j := by rw [Option.some.inj ho]; rfl
    rcases hbl with h | h
    · rw [h] at he; exact hjv he
    · rw [h] at he
      simp at he
      omega
set_option maxRecDepth 100000 in
set_option maxHeartbeats 2000000 in
theorem appendSeq_in (n : Nat) (hn : 3 ≤ n) (Bs Bi s m1 g : Nat) (lb : Array Value) (L : List Nat) (p : Nat → Bool) (hp : ∀ v, p v = true → 2 ≤ v) (hok : SpOk L)
    (eg : ∀ args w, (callFunc g args).run Try.prog w = .ok (.enter g args) w) (w : World) (hO : OfAt w w.heap.size Bs Bi s m1 g lb L p) :
    CallsIn Fence.wide n Try.prog 51 #[.slice none 0 0, .func (.func 40) #[] #[.pointer (some ⟨Bs, 0, none⟩), .pointer (some ⟨Bi, 0, none⟩)]] w fun e W' =>
      ∃ v, e = .returned v ∧ W'.ownsRow w.heap.size 2 1 v (spSel p L).length ((spSel p L).map (Value.int .i64)) ∧ Below w.heap.size w W' := by
  have h1 : 1 ≤ n := by omega
  have hro : Fence.wide.round = none := rfl
  obtain ⟨i0, hi, hz0, hz1, hz2⟩ := info_parts infoI64
  refine callsIn_of_wp_marks Try.func51 rfl trivial ?_ hro
  simp only [Try.ntmps51, List.size_toArray, List.length_cons, List.length_nil, Nat.reduceAdd, Nat.reduceSub, Array.replicate_succ, Array.replicate_zero, List.push_toArray, List.append_toArray, List.nil_append, List.cons_append]
  have HO := Lib.hid hO
  clear hO
  gi_wp2_with fail
  have bO := Boxed.new w 23 (.slice none 0 0)
  have hB0 : Below w.heap.size w (w.alloc (.cells #[.slice none 0 0] 23)) := (Below.refl _ w).alloc (Nat.le_refl _) _
  refine wpIn_rangeFunc_ownG hro h1 (gf := 40) (lb := #[.pointer (some ⟨Bs, 0, none⟩), .pointer (some ⟨Bi, 0, none⟩)]) rfl trivial (enters_of Try.func40 (by kernel_rfl) rfl)
    (of1_stops Fence.wide (n - 1) rfl trivial hro (by omega) w.heap.size (w.heap.size + 1) w.heap.size Bs Bi s m1 g lb L p hp hok eg _ (by simp) (by simp) (by simp) (fun k ⟨n, c, h⟩ => by rw [bO.cell] at h; cases h) (HO.out.below hB0)) KpC.t (KpC.put (by simp) (by simp)) (Below.refl _ _) (fun _ => rfl)
    (fun pre W => (∃ v, Boxed W w.heap.size 23 v ∧ W.ownsRow w.heap.size 2 1 v pre.length (pre.map (Value.int .i64)) ∧ True) ∧ Below w.heap.size w W)
    (fun _ _ _ => False)
    (OwnFrom.and (Own.from (holdsRow_own w.heap.size w.heap.size 23 2 1 (fun pre : List Int => pre.length) (fun pre => pre.map (Value.int .i64)) (fun _ _ => True)) _) (ownFrom_below (Nat.le_refl _) (by simp)))
    (fun _ _ _ _ _ hs _ _ => hs)
    ⟨⟨_, bO, World.ownsRow_nil _ _ _ _, trivial⟩, hB0⟩
    (fun x => { tmps := #[.slice none 0 0, .func (.func 40) #[] #[.pointer (some ⟨Bs, 0, none⟩), .pointer (some ⟨Bi, 0, none⟩)], .pointer (some ⟨w.heap.size, 0, none⟩), undef, .slice none 0 0, .int .i64 x, .func (.func 40) #[] #[.pointer (some ⟨Bs, 0, none⟩), .pointer (some ⟨Bi, 0, none⟩)], .int .i64 x, undef, undef, undef, undef, undef], defers := [] }) ?assign ?body ?done ?stop
  case assign =>
    intro l x W K hK
    gi_wp2
    exact hK
  case body =>
    rintro l pre x W ⟨⟨v, hv, hrow, _⟩, hB⟩ hlt
    have hc := hv.cell
    gi_wp2_with (gi_at_builtin; refine wpListIn_append_own_at _ rfl _ _ 23 rfl w.heap.size 2 i0 (.int .i64 0) 1 8 undI64s hi hz0 hz1 hz2 rfl (by decide) _ _ _ rfl (hrow.alloc _) ⟨W.heap.size, 0, none⟩ 1 1 [.int .i64 x] rfl rfl (cell_one_new _ _ _) (by simp [Value.oneCell']) (by unfold maxLen; omega) (by omega) (by have := hB.size; simp; omega) ?_; intro v' w1 hown' hgrow _ hbl; obtain ⟨g', cap', rfl⟩ := ownsRow_succ hown'; obtain ⟨hv1, hv2, hr2, hk2, hb2⟩ := hv.appended (by decide) hrow hB.size (Nat.le_refl _) hown' hgrow; have hkp := kpC_append hv (by decide) hrow hown' hgrow hb2 hv2 hbl; have hc1 := hv1.cell; have hf1 := hv1.frozen)
    exact ⟨hk2.from _, hkp, ⟨_, hv2, by simpa using hr2, trivial⟩, hB.trans hb2⟩
  case done =>
    rintro D ys W hD rfl ⟨⟨v, hv, hrow, _⟩, hB⟩ hK
    have hc := hv.cell
    gi_wp2
    refine ⟨by simp, .inl ⟨_, _, rfl, run_takeDeferred hK, ?_⟩⟩
    exact ⟨_, results_tmp rfl _ _ _, v, rfl, ownsRow_putObj hrow _ hK rfl, hB.trans (belowK_b (w := w) (Nat.le_refl _) W D _ _ (by simp at hD; omega) hK rfl rfl)⟩
  case stop =>
    rintro D c pre W _ _ h _
    exact h.elim
end Go.Proofs.Ytanbdkfkkochgaa

namespace Go.Proofs.Ytanbdkfkkochgaa
open Go.RowKit Go.Maps Go.Shelf

def NotYet (zs : List Int) (x : Int) (k : Nat) : Prop := ∀ j (h : j < zs.length), j < k → zs[j] ≠ x
set_option maxRecDepth 100000 in
set_option maxHeartbeats 1000000 in
theorem plIndex_any (w : World) (b c : Nat) (zs : List Int) (x : Int) (hz : ∀ j (h : j < zs.length), w.cell? ⟨b, j, none⟩ = some (.int .i64 zs[j])) (hl : zs.length ≤ 1000) :
    Calls Try.prog 52 #[.slice (some ⟨b, 0, none⟩) zs.length c, .int .i64 x] w fun e w' => ∃ r : Int, e = .returned (.int .i64 r) ∧ (0 ≤ r ↔ x ∈ zs) ∧ w = w' := by
  have HZ := Lib.hid hz
  clear hz
  go_enter Try.func52, Try.ntmps52
  go_wp2_with fail
  go_loop [8] (fun i => ∃ k : Nat, k ≤ zs.length ∧ i = .int .i64 k ∧ Hid (NotYet zs x k)) (fun i => zs.length - (intOf i).toNat)
  case atStart => exact ⟨0, by omega, rfl, Lib.hid (fun j _ h => by omega)⟩
  case round =>
    obtain ⟨k, hk, rfl, HN⟩ := hrel
    by_cases hkl : k < zs.length
    · have hc := HZ.out k hkl
      have hm : zs[k] ∈ zs := List.getElem_mem _
      obtain ⟨z, hzd⟩ : ∃ z, zs[k] = z := ⟨_, rfl⟩
      rw [hzd] at hc hm
      have HZD := Lib.hid hzd
      clear hzd
      by_cases hzx : x = z
      · subst hzx
        have HM := Lib.hid hm
        clear hm
        go_wp2_with fail
        go_ret
        exact ⟨_, rfl, ⟨fun _ => HM.out, fun _ => by omega⟩, rfl⟩
      · have hb : (x == z) = false := by simpa using hzx
        have HNE := Lib.hid hzx
        clear hzx hm
        go_wp2_with fail
        refine ⟨⟨k + 1, by omega, by go_num, Lib.hid (fun j h hj => ?_)⟩, by simp [intOf]; omega⟩
        by_cases hjk : j = k
        · subst hjk
          rw [HZD.out]
          exact fun h => HNE.out h.symm
        · exact HN.out j h (by omega)
    · obtain rfl : k = zs.length := by omega
      go_wp2_with fail
      go_ret
      refine ⟨-1, rfl, ⟨fun h => by omega, fun h => ?_⟩, rfl⟩
      obtain ⟨j, hj, he⟩ := List.getElem_of_mem h
      exact absurd he (HN.out j hj hj)
set_option maxRecDepth 100000 in
theorem plContains_any (w : World) (b c : Nat) (zs : List Int) (x : Int) (hz : ∀ j (h : j < zs.length), w.cell? ⟨b, j, none⟩ = some (.int .i64 zs[j])) (hl : zs.length ≤ 1000) :
    Calls Try.prog 45 #[.slice (some ⟨b, 0, none⟩) zs.length c, .int .i64 x] w fun e w' => e = .returned (.bool (decide (x ∈ zs))) ∧ w = w' := by
  have HI := Lib.hid (plIndex_any w b c zs x hz hl)
  clear hz hl
  go_enter Try.func45, Try.ntmps45
  go_wp2_with fail
  refine HI.out.mono ?_
  rintro e w' ⟨r, rfl, hr, rfl⟩
  have HR := Lib.hid hr
  clear hr
  go_wp2_with fail
  go_ret
  refine ⟨?_, rfl⟩
  show Ending.returned (.bool (decide (0 ≤ r))) = _
  rw [decide_eq_decide.2 HR.out]
/-- Which places a list names. -/
def plIn (zs : List Int) : Nat → Bool := fun v => decide ((v : Int) ∈ zs)
set_option maxRecDepth 100000 in
theorem sievedFn_any (w : World) (bl b c : Nat) (zs : List Int) (v : Nat) (hb : w.cell? ⟨bl, 0, none⟩ = some (.slice (some ⟨b, 0, none⟩) zs.length c)) (hz : ∀ j (h : j < zs.length), w.cell? ⟨b, j, none⟩ = some (.int .i64 zs[j])) (hl : zs.length ≤ 1000) :
    Calls Try.prog 44 (#[.int .i64 (v : Int)] ++ #[.pointer (some ⟨bl, 0, none⟩)]) w fun e w' => e = .returned (.bool (plIn zs v)) ∧ w = w' := by
  have HI := Lib.hid (plContains_any w b c zs v hz hl)
  clear hz hl
  go_enter Try.func44, Try.ntmps44
  go_wp2_with fail
  refine HI.out.mono ?_
  rintro e w' ⟨rfl, rfl⟩
  go_wp2_with fail
  go_ret
  exact ⟨rfl, rfl⟩
set_option maxRecDepth 100000 in
theorem collect_any (Bs Bi s m1 g : Nat) (lb : Array Value) (L : List Nat) (p : Nat → Bool) (hp : ∀ v, p v = true → 2 ≤ v) (hok : SpOk L)
    (eg : ∀ args w, (callFunc g args).run Try.prog w = .ok (.enter g args) w) (w : World) (hO : OfAt w w.heap.size Bs Bi s m1 g lb L p) :
    Calls Try.prog 43 #[.func (.func 40) #[] #[.pointer (some ⟨Bs, 0, none⟩), .pointer (some ⟨Bi, 0, none⟩)]] w fun e W' =>
      ∃ v, e = .returned v ∧ W'.ownsRow w.heap.size 2 1 v (spSel p L).length ((spSel p L).map (Value.int .i64)) ∧ Below w.heap.size w W' := by
  have HC := Lib.hid (callsIn_wide.1 (appendSeq_in 6 (by omega) Bs Bi s m1 g lb L p hp hok eg w hO))
  clear hO hp hok eg
  go_enter Try.func43, Try.ntmps43
  go_wp2_with fail
  refine HC.out.mono ?_
  rintro e w' ⟨v, rfl, h1, h2⟩
  obtain ⟨A, n, c, rfl⟩ : ∃ A n c, v = .slice A n c := by
    rcases h1.2 with ⟨rfl, h0⟩ | ⟨gb, cap, cur, rfl, _⟩
    · exact ⟨none, 0, 0, rfl⟩
    · exact ⟨_, _, _, rfl⟩
  have H := Lib.hid (And.intro h1 h2)
  clear h1 h2
  go_wp2_with fail
  go_ret
  exact ⟨_, rfl, H.out⟩
set_option maxRecDepth 100000 in
set_option maxHeartbeats 1000000 in
theorem sieved_any {w : World} {s m1 m2 most : Nat} {L M : List Nat} (h : SpAt w s m1 m2 most L M) (b c : Nat) (zs : List Int) (hzl : zs.length ≤ 1000) (hb : b < w.heap.size) (hz : ∀ j (h : j < zs.length), w.cell? ⟨b, j, none⟩ = some (.int .i64 zs[j])) (h2 : ∀ v, plIn zs v = true → 2 ≤ v) :
    Calls Try.prog 31 #[.pointer (some ⟨s, 0, none⟩), .slice (some ⟨b, 0, none⟩) zs.length c] w fun e W' =>
      ∃ v, e = .returned v ∧ W'.ownsRow w.heap.size 2 1 v (spSel (plIn zs) L).length ((spSel (plIn zs) L).map (Value.int .i64)) ∧ Keeps w W' [] := by
  have H := Lib.hid h
  have HB := Lib.hid (And.intro hzl (And.intro hb (And.intro hz h2)))
  clear h hzl hb hz h2
  go_enter Try.func31, Try.ntmps31
  go_wp2_with fail
  refine (spNone_any (H.out.keeps (Keeps.alloc _ _))).mono ?_
  rintro e w' ⟨rfl, rfl⟩
  go_wp2_with fail
  refine (spOf_any _ _ _ _).mono ?_
  rintro e w' ⟨rfl, rfl⟩
  obtain ⟨W1, hW1⟩ : ∃ W1, w.alloc (.cells #[.slice (some ⟨b, 0, none⟩) zs.length c] 80) = W1 := ⟨_, rfl⟩
  have k1 : Keeps w W1 [] := by rw [← hW1]; exact Keeps.alloc _ _
  have s1 : W1.heap.size = w.heap.size + 1 := by rw [← hW1]; simp
  have r1 : Row W1 w.heap.size 80 #[.slice (some ⟨b, 0, none⟩) zs.length c] := by rw [← hW1]; exact Row.new _ _ _
  rw [hW1]
  obtain ⟨W2, hW2⟩ : ∃ W2, (W1.alloc (.cells #[.pointer (some ⟨s, 0, none⟩)] 26)).alloc (.cells #[.func (.func 44) #[] #[.pointer (some ⟨w.heap.size, 0, none⟩)]] 66) = W2 := ⟨_, rfl⟩
  have k2 : Keeps W1 W2 [] := by rw [← hW2]; exact (Keeps.alloc _ _).then_alloc _
  have s2 : W2.heap.size = W1.heap.size + 2 := by rw [← hW2]; simp
  have r2 : Row W2 W1.heap.size 26 #[.pointer (some ⟨s, 0, none⟩)] := by rw [← hW2]; exact (Row.new _ _ _).alloc _
  have r3 : Row W2 (W1.heap.size + 1) 66 #[.func (.func 44) #[] #[.pointer (some ⟨w.heap.size, 0, none⟩)]] := by
    rw [← hW2]
    have := Row.new (W1.alloc (.cells #[.pointer (some ⟨s, 0, none⟩)] 26)) 66 #[.func (.func 44) #[] #[.pointer (some ⟨w.heap.size, 0, none⟩)]]
    rwa [World.size_alloc] at this
  have hA := H.out.keeps (k1.trans k2 (by simp))
  have hO : OfAt W2 W2.heap.size W1.heap.size (W1.heap.size + 1) s m1 44 #[.pointer (some ⟨w.heap.size, 0, none⟩)] L (plIn zs) := by
    have hrow := hA.row
    refine ⟨r2.cell 0, r3.cell 0, hA.row.cell 1, hA.p1, fun W' hW' v => ?_, by omega, by omega, hrow.lt, hA.p1.lt⟩
    refine sievedFn_any W' w.heap.size b c zs v ?_ (fun j hj => ?_) HB.out.1
    · exact (hW'.cell (p := ⟨w.heap.size, 0, none⟩) (show w.heap.size < W2.heap.size by omega)).trans ((k2.cell (p := ⟨w.heap.size, 0, none⟩) (show w.heap.size < W1.heap.size by omega) (by simp)).trans (r1.cell 0))
    · have hb := HB.out.2.1
      exact (hW'.cell (p := ⟨b, j, none⟩) (show b < W2.heap.size by omega)).trans ((((k1.trans k2 (by simp) : Keeps w W2 [])).cell (p := ⟨b, j, none⟩) hb (by simp)).trans (HB.out.2.2.1 j hj))
  have HC := Lib.hid (collect_any W1.heap.size (W1.heap.size + 1) s m1 44 #[.pointer (some ⟨w.heap.size, 0, none⟩)] L (plIn zs) HB.out.2.2.2 hA.ok1 (enters_of Try.func44 (by kernel_rfl) rfl) W2 hO)
  have HK := Lib.hid (And.intro (k1.trans k2 (by simp) : Keeps w W2 []) (show w.heap.size ≤ W2.heap.size by omega))
  rw [hW2]
  clear hO hA r3 r2 s2 k2 hW2 r1 s1 k1 hW1
  go_wp2_with fail
  refine HC.out.mono ?_
  rintro e w' ⟨v, rfl, h1, h2⟩
  obtain ⟨A, n, c', rfl⟩ : ∃ A n c, v = .slice A n c := by
    rcases h1.2 with ⟨rfl, h0⟩ | ⟨gb, cap, cur, rfl, _⟩
    · exact ⟨none, 0, 0, rfl⟩
    · exact ⟨_, _, _, rfl⟩
  have H9 := Lib.hid (And.intro h1 h2)
  clear h1 h2
  go_wp2_with fail
  go_ret
  refine ⟨_, rfl, ⟨H9.out.1.1, ?_⟩, HK.out.1.trans (Keeps.of_below H9.out.2) (by simp)⟩
  rcases H9.out.1.2 with h | ⟨gb, cap, cur, e1, e2, r⟩
  · exact .inl h
  · exact .inr ⟨gb, cap, cur, e1, Nat.le_trans HK.out.2 e2, r⟩
end Go.Proofs.Ytanbdkfkkochgaa

namespace Go.Proofs.Ytanbdkfkkochgaa
open Go.RowKit Go.Maps Go.Shelf

/-- A list of pages of the call's own. -/
abbrev OwnI (w : World) (base : Nat) (v : Value) (ks : List Int) : Prop := w.ownsRow base 2 1 v ks.length (ks.map (Value.int .i64))
theorem OwnI.base {w : World} {B B' : Nat} {v : Value} {ks : List Int} (h : OwnI w B v ks) (hB : B' ≤ B) : OwnI w B' v ks := by
  refine ⟨h.1, ?_⟩
  rcases h.2 with h | ⟨gb, cap, cur, e1, e2, r⟩
  · exact .inl h
  · exact .inr ⟨gb, cap, cur, e1, Nat.le_trans hB e2, r⟩
theorem OwnI.slice {w : World} {B : Nat} {v : Value} {ks : List Int} (h : OwnI w B v ks) : ∃ A c, v = .slice A ks.length c := by
  rcases h.2 with ⟨rfl, h0⟩ | ⟨gb, cap, cur, rfl, _⟩
  · exact ⟨none, 0, by rw [h0]⟩
  · exact ⟨_, _, rfl⟩
theorem OwnI.lies {w : World} {B c : Nat} {A : Option Addr} {ks : List Int} (h : OwnI w B (.slice A ks.length c) ks) : Lies w w.heap.size A (ks.map (Value.int .i64)) := Lies.of_own h
theorem OwnI.keep {w w' : World} {B : Nat} {v : Value} {ks : List Int} {S : List Nat} (h : OwnI w B v ks) (hk : Keeps w w' S) (hS : ∀ x ∈ S, x < B) : OwnI w' B v ks := by
  refine ⟨h.1, ?_⟩
  rcases h.2 with h | ⟨gb, cap, cur, e1, e2, hh, r⟩
  · exact .inl h
  · exact .inr ⟨gb, cap, cur, e1, e2, (hk.block gb (Array.getElem?_eq_some_iff.1 hh).1 (fun hm => by have := hS gb hm; omega)).trans hh, r⟩
theorem plIn_one (a v : Nat) : plIn [(a : Int)] v = decide (v = a) := by
  unfold plIn
  rw [decide_eq_decide]
  simp
  omega
set_option maxRecDepth 100000 in
set_option maxHeartbeats 1000000 in
theorem spFree_any {w : World} {s m1 m2 most : Nat} {L M : List Nat} (h : SpAt w s m1 m2 most L M) :
    Calls Try.prog 16 #[.pointer (some ⟨s, 0, none⟩)] w fun e w' => ∃ v, e = .returned v ∧ OwnI w' w.heap.size v (spSel (plIn [4]) L) ∧ Keeps w w' [] := by
  have r1 := Row.new w 48 #[.int .i64 4]
  have H := Lib.hid (sieved_any (h.keeps (Keeps.alloc w (.cells #[.int .i64 4] 48))) w.heap.size 1 [4] (by simp) (by simp) (fun j hj => by
    have hc := r1.cell j
    rw [hc]
    rcases j with _ | _ | j
    · rfl
    · first | rfl | (simp at hj; done)
    · first | (simp at hj; done) | (simp at hj; omega)) (fun v hv => by unfold plIn at hv; simp at hv; omega))
  clear h r1
  go_enter Try.func16, Try.ntmps16
  go_wp2_with fail
  refine H.out.mono ?_
  rintro e w' ⟨v, rfl, h1, h2⟩
  obtain ⟨A, c, rfl⟩ := OwnI.slice h1
  have H9 := Lib.hid (And.intro h1 h2)
  clear h1 h2
  go_wp2_with fail
  go_ret
  exact ⟨_, rfl, OwnI.base H9.out.1 (by simp), (Keeps.alloc _ _).trans H9.out.2 (by simp)⟩
set_option maxRecDepth 100000 in
set_option maxHeartbeats 1000000 in
theorem spNew_any {w : World} {s m1 m2 most : Nat} {L M : List Nat} (h : SpAt w s m1 m2 most L M) :
    Calls Try.prog 15 #[.pointer (some ⟨s, 0, none⟩)] w fun e w' => ∃ v, e = .returned v ∧ OwnI w' w.heap.size v (spSel (plIn [2]) L) ∧ Keeps w w' [] := by
  have r1 := Row.new w 48 #[.int .i64 2]
  have H := Lib.hid (sieved_any (h.keeps (Keeps.alloc w (.cells #[.int .i64 2] 48))) w.heap.size 1 [2] (by simp) (by simp) (fun j hj => by
    have hc := r1.cell j
    rw [hc]
    rcases j with _ | _ | j
    · rfl
    · first | rfl | (simp at hj; done)
    · first | (simp at hj; done) | (simp at hj; omega)) (fun v hv => by unfold plIn at hv; simp at hv; omega))
  clear h r1
  go_enter Try.func15, Try.ntmps15
  go_wp2_with fail
  refine H.out.mono ?_
  rintro e w' ⟨v, rfl, h1, h2⟩
  obtain ⟨A, c, rfl⟩ := OwnI.slice h1
  have H9 := Lib.hid (And.intro h1 h2)
  clear h1 h2
  go_wp2_with fail
  go_ret
  exact ⟨_, rfl, OwnI.base H9.out.1 (by simp), (Keeps.alloc _ _).trans H9.out.2 (by simp)⟩
set_option maxRecDepth 100000 in
set_option maxHeartbeats 1000000 in
theorem spHeld_any {w : World} {s m1 m2 most : Nat} {L M : List Nat} (h : SpAt w s m1 m2 most L M) :
    Calls Try.prog 21 #[.pointer (some ⟨s, 0, none⟩)] w fun e w' => ∃ v, e = .returned v ∧ OwnI w' w.heap.size v (spSel (plIn [3]) L) ∧ Keeps w w' [] := by
  have r1 := Row.new w 48 #[.int .i64 3]
  have H := Lib.hid (sieved_any (h.keeps (Keeps.alloc w (.cells #[.int .i64 3] 48))) w.heap.size 1 [3] (by simp) (by simp) (fun j hj => by
    have hc := r1.cell j
    rw [hc]
    rcases j with _ | _ | j
    · rfl
    · first | rfl | (simp at hj; done)
    · first | (simp at hj; done) | (simp at hj; omega)) (fun v hv => by unfold plIn at hv; simp at hv; omega))
  clear h r1
  go_enter Try.func21, Try.ntmps21
  go_wp2_with fail
  refine H.out.mono ?_
  rintro e w' ⟨v, rfl, h1, h2⟩
  obtain ⟨A, c, rfl⟩ := OwnI.slice h1
  have H9 := Lib.hid (And.intro h1 h2)
  clear h1 h2
  go_wp2_with fail
  go_ret
  exact ⟨_, rfl, OwnI.base H9.out.1 (by simp), (Keeps.alloc _ _).trans H9.out.2 (by simp)⟩
set_option maxRecDepth 100000 in
set_option maxHeartbeats 1000000 in
theorem spWill_any {w : World} {s m1 m2 most : Nat} {L M : List Nat} (h : SpAt w s m1 m2 most L M) :
    Calls Try.prog 22 #[.pointer (some ⟨s, 0, none⟩)] w fun e w' => ∃ v, e = .returned v ∧ OwnI w' w.heap.size v (spSel (plIn [4, 3]) L) ∧ Keeps w w' [] := by
  have r1 := Row.new w 48 #[.int .i64 4, .int .i64 3]
  have H := Lib.hid (sieved_any (h.keeps (Keeps.alloc w (.cells #[.int .i64 4, .int .i64 3] 48))) w.heap.size 2 [4, 3] (by simp) (by simp) (fun j hj => by
    have hc := r1.cell j
    rw [hc]
    rcases j with _ | _ | j
    · rfl
    · first | rfl | (simp at hj; done)
    · first | (simp at hj; done) | (simp at hj; omega)) (fun v hv => by unfold plIn at hv; simp at hv; omega))
  clear h r1
  go_enter Try.func22, Try.ntmps22
  go_wp2_with fail
  refine H.out.mono ?_
  rintro e w' ⟨v, rfl, h1, h2⟩
  obtain ⟨A, c, rfl⟩ := OwnI.slice h1
  have H9 := Lib.hid (And.intro h1 h2)
  clear h1 h2
  go_wp2_with fail
  go_ret
  exact ⟨_, rfl, OwnI.base H9.out.1 (by simp), (Keeps.alloc _ _).trans H9.out.2 (by simp)⟩
/-- What lies behind a call that writes. -/
structure SpPost (w w' : World) (s m1 m2 most : Nat) (L' M' : List Nat) (n1 n2 : Nat) : Prop where
  at_ : SpAt w' s n1 n2 most L' M'
  h : Keeps w w' [s, m1]
  f1 : n1 = m1 ∨ w.heap.size ≤ n1
  f2 : n2 = m2 ∨ w.heap.size ≤ n2
set_option maxRecDepth 100000 in
set_option maxHeartbeats 1000000 in
theorem spGive_any {w : World} {s m1 m2 most : Nat} {L M : List Nat} (h : SpAt w s m1 m2 most L M) (x : Int) (h1 : -9223372036854775808 ≤ x) (h2 : x ≤ 9223372036854775807) :
    Calls Try.prog 13 #[.pointer (some ⟨s, 0, none⟩), .int .i64 x] w fun e w' => e = .returned (.int .i64 ((spGive L x).2 : Nat)) ∧ SpPost w w' s m1 m2 most (spGive L x).1 M m1 m2 := by
  have HN := Lib.hid (spNone_any h)
  have HI := Lib.hid (spIs_any h x h1 h2)
  have H := Lib.hid h
  have hM := h.ok1.most x
  have hst := fun v => h.p1.store undI64 undPl (ks := spKeys L) (fun y hy => spKeys_mem.2 hy) (by have := spSel_length (fun v => decide (2 ≤ v)) L; have := h.ok1.le; unfold maxLen; show (spSel _ L).length < _; omega) h1 h2 v
  have hnz := fun hz => h.ok1.nz (x := x) hz
  have c0 := h.row.cell 0
  have c1 := h.row.cell 1
  have c2 := h.row.cell 2
  have c3 := h.row.cell 3
  have c4 := h.row.cell 4
  simp only [List.getElem?_toArray, List.getElem?_cons_zero, List.getElem?_cons_succ] at c0 c1 c2 c3 c4
  have HG := Lib.hid (show spGive L x = if codeAt L x = 2 then (L.set x.toNat 4, 0) else if codeAt L x = 1 then (L.set x.toNat 3, 0) else (L, 171) from rfl)
  obtain ⟨C, hC⟩ : ∃ C, codeAt L x = C := ⟨_, rfl⟩
  rw [hC] at HI HG hnz hM
  obtain ⟨G, hGd⟩ : ∃ G, spGive L x = G := ⟨_, rfl⟩
  rw [hGd] at HG ⊢
  clear h hC hGd
  have fin : ∀ (v : Nat), 2 ≤ v → v ≤ 4 → C ≠ 0 → ∀ w', PMap w' m1 (upd (spF L) x (some (.int .i64 (v : Int)))) → Keeps w w' [m1] → SpPost w w' s m1 m2 most (L.set x.toNat v) M m1 m2 := by
    intro v hv1 hv2 hz w' hp hk
    have hx := hnz hz
    have hne := IMap.ne_row H.out.p1 H.out.row
    refine ⟨⟨?_, ?_, H.out.p2.keep hk (by simpa using H.out.ne.symm), H.out.ne, H.out.ok1.set (by omega) (by omega), H.out.ok2, by simpa using H.out.le1, H.out.le2, H.out.le⟩, hk.weaken (by simp), .inl rfl, .inl rfl⟩
    · rw [List.length_set]
      exact H.out.row.keep hk (by simpa using hne.symm)
    · have e := spF_set (L := L) (n := x.toNat) (v := v) (by omega)
      rw [if_neg (by omega), show ((x.toNat : Nat) : Int) = x by omega] at e
      rw [e]; exact hp
  have HFIN := Lib.hid fin
  have HST := Lib.hid hst
  clear fin hst hnz
  have hCI : (C : Int) ≤ 4 := by omega
  clear hM
  by_cases h2c : C = 2
  · obtain ⟨w5, hrun, hp, hk, hmt⟩ := HST.out (.int .i64 4)
    subst h2c
    have HP := Lib.hid (And.intro hp hk)
    clear hp hk hmt
    go_enter Try.func13, Try.ntmps13
    go_wp2_with fail
    refine HN.out.mono ?_
    rintro e w' ⟨rfl, rfl⟩
    go_wp2_with fail
    refine HI.out.mono ?_
    rintro e w' ⟨rfl, rfl⟩
    go_wp2_with fail
    go_ret
    have hg := HG.out
    rw [if_pos trivial] at hg
    subst hg
    exact ⟨rfl, HFIN.out 4 (by omega) (by omega) (by omega) _ HP.out.1 HP.out.2⟩
  · by_cases h1c : C = 1
    · obtain ⟨w5, hrun, hp, hk, hmt⟩ := HST.out (.int .i64 3)
      subst h1c
      have HP := Lib.hid (And.intro hp hk)
      clear hp hk hmt
      go_enter Try.func13, Try.ntmps13
      go_wp2_with fail
      refine HN.out.mono ?_
      rintro e w' ⟨rfl, rfl⟩
      go_wp2_with fail
      refine HI.out.mono ?_
      rintro e w' ⟨rfl, rfl⟩
      go_wp2_with fail
      go_ret
      have hg := HG.out
      rw [if_neg (by decide), if_pos trivial] at hg
      subst hg
      exact ⟨rfl, HFIN.out 3 (by omega) (by omega) (by omega) _ HP.out.1 HP.out.2⟩
    · have e2 : ((C : Int) == 2) = false := by simp; omega
      have e1 : ((C : Int) == 1) = false := by simp; omega
      have HG2 := Lib.hid (show G = (L, 171) by rw [HG.out, if_neg h2c, if_neg h1c])
      clear HG h2c h1c HST HFIN
      go_enter Try.func13, Try.ntmps13
      go_wp2_with fail
      refine HN.out.mono ?_
      rintro e w' ⟨rfl, rfl⟩
      go_wp2_with fail
      refine HI.out.mono ?_
      rintro e w' ⟨rfl, rfl⟩
      go_wp2_with fail
      go_ret
      have hg := HG2.out
      subst hg
      exact ⟨rfl, H.out, Keeps.refl _ _, .inl rfl, .inl rfl⟩
end Go.Proofs.Ytanbdkfkkochgaa
