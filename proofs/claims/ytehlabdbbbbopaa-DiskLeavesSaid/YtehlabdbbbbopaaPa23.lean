/- Cells of a row stored in one go; a whole page stored inside a fence. Package disk: Crash. Package disk: Crash, told plainly; what a disk that is not there answers. Package disk: a disk that is not there. -/
import Derived.Test.YtehlabdbbbbopaaPa22
import Derived.TacticsInMore
import Derived.OwnWalkIn
import Derived.Laws.IdiomCopy
import Derived.Laws.CopyRow
import Derived.Deep.MidRow

namespace Go.Proofs.Ytehlabdbbbbopaa
open Go.RowKit

def setFrom : List Value → Nat → Array Value → Array Value
  | [], _, cs => cs
  | v :: vs, o, cs => setFrom vs (o + 1) (cs.setIfInBounds o v)
theorem setFrom_size : ∀ (vs : List Value) (o : Nat) (cs : Array Value), (setFrom vs o cs).size = cs.size
  | [], _, _ => rfl
  | v :: vs, o, cs => by rw [setFrom, setFrom_size vs (o + 1)]; simp
theorem setFrom_get : ∀ (vs : List Value) (o : Nat) (cs : Array Value) (i : Nat), i < cs.size → (setFrom vs o cs)[i]? = if o ≤ i ∧ i < o + vs.length then vs[i - o]? else cs[i]?
  | [], o, cs, i, hi => by rw [setFrom, if_neg (by simp)]
  | v :: vs, o, cs, i, hi => by
    rw [setFrom, setFrom_get vs (o + 1) _ i (by simpa using hi)]
    by_cases h1 : o + 1 ≤ i ∧ i < o + 1 + vs.length
    · rw [if_pos h1, if_pos (by simp; omega), show i - o = (i - (o + 1)) + 1 by omega, List.getElem?_cons_succ]
    · rw [if_neg h1]
      by_cases h2 : i = o
      · subst h2
        rw [if_pos (by simp), Nat.sub_self, List.getElem?_cons_zero]
        simp [hi]
      · rw [if_neg (by simp; omega)]
        simp [Ne.symm h2]
theorem Row.setCells {t : TypeId} {g : Nat} : ∀ (vs : List Value) (o : Nat) {w : World} {cs : Array Value}, Row w g t cs → Row (w.setCells g o vs) g t (setFrom vs o cs)
  | [], _, _, _, h => h
  | v :: vs, o, _, _, h => Row.setCells vs (o + 1) (h.store o v)
theorem Keeps.setCells {g : Nat} : ∀ (vs : List Value) (o : Nat) (w : World), Keeps w (w.setCells g o vs) [g]
  | [], _, w => Keeps.refl w [g]
  | v :: vs, o, w => (Keeps.setCell w ⟨g, o, none⟩ v).trans (Keeps.setCells vs (o + 1) _) (fun _ h _ => h)
theorem Row.there {w : World} {g : Nat} {t : TypeId} {cs : Array Value} (h : Row w g t cs) {o n : Nat} (hn : o + n ≤ cs.size) : w.there g o n := fun j hj => ⟨by rw [h.cell (o + j), Array.getElem?_eq_getElem (by omega)]; rfl, h.frozen (o + j)⟩
theorem setFrom_all {X Z : Array Value} (h : Z.size = X.size) : setFrom X.toList 0 Z = X := by
  apply Array.ext_getElem?
  intro i
  by_cases hi : i < Z.size
  · rw [setFrom_get _ _ _ _ hi, if_pos ⟨Nat.zero_le _, by simp; omega⟩, Nat.sub_zero, Array.getElem?_toList]
  · rw [Array.getElem?_eq_none (by rw [setFrom_size]; omega), Array.getElem?_eq_none (by omega)]
section
variable {F : Fence} {n : Nat} {ops : Array Oper} {Q : Exit → Act → World → Prop} {rest : List Oper} {op : Oper} {a : Act} {w : World}
/-- A page is laid into a box, inside a fence. -/
theorem wpListIn_storeLeaf (hgd : op.guard = none) (x y : Operand) (ho : op.op = .store 72 x y) (g : Nat) (X Z : Array Value) (hr : Row w g 72 Z) (hX : X.size = 256) (hZ : Z.size = 256) (h1 : X.all (·.oneCell') = true)
    (hx : a.eval x = .pointer (some ⟨g, 0, none⟩)) (hy : a.eval y = .agg X)
    (h : ∀ w', Row w' g 72 X → Keeps w w' [g] → wpListIn F n Try.prog ops Q rest (a.put op.dst undef) w') : wpListIn F n Try.prog ops Q (op :: rest) a w := by
  refine wpListIn_plain hgd fun K hK => ?_
  have hrun := run_storeAt_mid (P := Try.prog) w g 0 72 X (hr.there (by omega)) (by rw [hX]; exact (zero_of_info infoLeaf).2) h1
  have h2 := hr.setCells X.toList 0
  rw [setFrom_all (by omega)] at h2
  unfold Oper.wpIn
  refine ⟨by simp [Oper.about, ho], ?_⟩
  rw [Oper.semAt_plain F _ _ (by rw [ho]; intro c hc'; cases hc')]
  unfold execOp
  simp only [ho, hx, hy, Sem.run_bind, hrun, Result.andThen_ok, Sem.run_pure]
  exact hK _ _ (h _ h2 (Keeps.setCells _ _ _))
/-- A stretch of bytes is copied out of one row into another, inside a fence. -/
theorem wpListIn_copyRow (hgd : op.guard = none) (x y : Operand) (t t' : TypeId) (ho : op.op = .call { callee := .builtin .copy, args := #[x, y], argTypes := #[t, t'] }) (hu : Try.prog.underlying t = some (.slice 5)) (hs : (Try.prog.info? 5).map (·.size) = some 1)
    (g o dLen dCap b p sLen sCap : Nat) (tc : TypeId) (cur : Array Value) (cs : List Value) (hr : Row w g tc cur) (hx : a.eval x = .slice (some ⟨g, o, none⟩) dLen dCap) (hy : a.eval y = .slice (some ⟨b, p, none⟩) sLen sCap) (hn : cs.length = Nat.min sLen dLen)
    (hsrc : ∀ j v, cs[j]? = some v → w.cell? ⟨b, p + j, none⟩ = some v) (hfit : o + cs.length ≤ cur.size) (h1 : ∀ v ∈ cs, v.oneCell' = true)
    (h : ∀ w', Row w' g tc (cur.toList.take o ++ cs ++ cur.toList.drop (o + cs.length)).toArray → Keeps w w' [g] → wpListIn F n Try.prog ops Q rest (a.put op.dst (goInt cs.length)) w') : wpListIn F n Try.prog ops Q (op :: rest) a w := by
  refine wpListIn_plain hgd fun K hK => ?_
  obtain ⟨w', hrun, hrow, hk⟩ : ∃ w', (Builtin.copy_ #[t, t'] op.type #[.slice (some ⟨g, o, none⟩) dLen dCap, .slice (some ⟨b, p, none⟩) sLen sCap]).run Try.prog w = .ok (goInt cs.length) w' ∧ Row w' g tc (cur.toList.take o ++ cs ++ cur.toList.drop (o + cs.length)).toArray ∧ Keeps w w' [g] :=
    ⟨_, run_copy_row (P := Try.prog) w t t' op.type 5 g o dLen dCap ⟨b, p, none⟩ sLen sCap cur tc cs hu hs hr hn (fun j v hv => by rw [Addr.add_mid]; exact hsrc j v hv) hfit h1, setRow_heap w g cur _ tc _ hr,
      ⟨rfl, rfl, rfl, by simp, fun k _ hk => setRow_other w g k _ (by simpa using hk)⟩⟩
  unfold Oper.wpIn
  refine ⟨by simp [Oper.about, ho, resolve, Target.leads, Sem.run_pure], ?_⟩
  rw [Oper.semAt_plain F _ _ (by rw [ho]; intro c hc'; cases hc')]
  simp [execOp, ho, resolve, invoke, builtin, hx, hy, hrun, Result.andThen]
  exact hK _ _ (h _ hrow hk)
end
theorem leavesC_at : ∀ (l : List (List UInt8)) (_ : ∀ b ∈ l, b.length = 256) (q : Nat) (hq : q < l.length) (i : Nat) (_ : i < 256), (leavesC l)[q * 256 + i]? = (l[q].map byteV)[i]?
  | b :: l, hl, 0, _, i, hi => by
    show ((b.map byteV) ++ leavesC l)[0 * 256 + i]? = _
    have hb := hl b (by simp)
    rw [List.getElem?_append_left (by rw [List.length_map, hb]; omega), show 0 * 256 + i = i by omega]
    rfl
  | b :: l, hl, q + 1, hq, i, hi => by
    show ((b.map byteV) ++ leavesC l)[(q + 1) * 256 + i]? = _
    have hb := hl b (by simp)
    rw [List.getElem?_append_right (by rw [List.length_map, hb]; omega), List.length_map, hb, show (q + 1) * 256 + i - 256 = q * 256 + i by omega, leavesC_at l (fun c hc => hl c (by simp [hc])) q (by simpa using hq) i hi]
    rfl
theorem leaves_cell {w : World} {B gv vc : Nat} {l : List (List UInt8)} (h : LeavesAt w B (.slice (some ⟨gv, 0, none⟩) l.length vc) l) (hl : ∀ b ∈ l, b.length = 256) {q : Nat} (hq : q < l.length) {i : Nat} {v : Value} (hv : (l[q].map byteV)[i]? = some v) : w.cell? ⟨gv, q * 256 + i, none⟩ = some v := by
  have hi : i < 256 := by
    have := (List.getElem?_eq_some_iff.1 hv).1
    rw [List.length_map, hl _ (List.getElem_mem hq)] at this
    exact this
  have h1 := leavesC_at l hl q hq i hi
  rw [hv] at h1
  have hL : Lies w w.heap.size (some ⟨gv, 0, none⟩) (leavesC l) := liesN_of_own (by omega) h
  obtain ⟨b, o, e, hb, hc⟩ := hL (by have := (List.getElem?_eq_some_iff.1 h1).1; omega)
  simp only [Option.some.injEq, Addr.mk.injEq] at e
  obtain ⟨rfl, rfl, -⟩ := e
  have := hc _ _ h1
  rwa [Nat.zero_add] at this
theorem leaves_lt {w : World} {B gv vc : Nat} {l : List (List UInt8)} (h : LeavesAt w B (.slice (some ⟨gv, 0, none⟩) l.length vc) l) (hl : ∀ b ∈ l, b.length = 256) (hp : 0 < l.length) : gv < w.heap.size := by
  have hL : Lies w w.heap.size (some ⟨gv, 0, none⟩) (leavesC l) := liesN_of_own (by omega) h
  have h1 := leavesC_at l hl 0 hp 0 (by omega)
  obtain ⟨u, hu⟩ : ∃ u, (l[0].map byteV)[0]? = some u := by
    have hb0 : l[0].length = 256 := hl _ (List.getElem_mem hp)
    exact ⟨_, List.getElem?_eq_getElem (by rw [List.length_map, hb0]; decide)⟩
  rw [hu] at h1
  obtain ⟨b, o, e, hb, hc⟩ := hL (by have := (List.getElem?_eq_some_iff.1 h1).1; omega)
  simp only [Option.some.injEq, Addr.mk.injEq] at e
  obtain ⟨rfl, rfl, -⟩ := e
  exact hb
theorem graft_leaf {pg b : List UInt8} {k : Nat} (hb : b.length = 256) (hk : k < 4) : ((leafC pg).toList.take (64 * k) ++ ((b.drop (64 * k)).take 64).map byteV ++ (leafC pg).toList.drop (64 * k + (((b.drop (64 * k)).take 64).map byteV).length)).toArray = leafC (graft pg b k) := by
  have e : (((b.drop (64 * k)).take 64).map byteV).length = 64 := by simp [hb]; omega
  rw [e]
  apply Array.ext'
  rw [leafC_list, leafC_list]
  unfold graft
  simp [List.map_take, List.map_drop]
end Go.Proofs.Ytehlabdbbbbopaa

namespace Go.Proofs.Ytehlabdbbbbopaa
open Go.RowKit Go.Maps Go.Shelf

attribute [local go_sem] Oper.semAt_some

/-- What Crash answers. -/
def CrashPost (w : World) (D : Dk) (picks : List Int) (e : Ending) (w' : World) : Prop :=
  ∃ c n1 n2, e = .returned (.tuple #[.pointer (some ⟨c, 0, none⟩), .int .i64 0]) ∧ DkAt w' c n1 n2 (.slice none 0 0) (D.crash picks) ∧ w.heap.size ≤ c ∧ w.heap.size ≤ n1 ∧ w.heap.size ≤ n2 ∧ Keeps w w' []
/-- What stands in the midst of a crash. -/
structure CrSt (Ws : World) (N : Nat) (D : Dk) (picks : List Int) (bx b5 : Nat) (pre : List (Int × Nat)) (W : World) : Prop where
  ex : ∃ M ps A cap, secRun D.waits pre D.lasts picks = (M, ps) ∧ DMap W b5 M ∧ PagesOk D.pages M ∧ Row W bx 37 #[.slice A ps.length cap] ∧ Lies W N A (ps.map encZ) ∧ ps.length ≤ cap
  k : Keeps Ws W [bx, b5]
theorem CrSt.keeps {Ws W W' : World} {N : Nat} {D : Dk} {picks : List Int} {bx b5 : Nat} {pre : List (Int × Nat)} {S : List Nat} (h : CrSt Ws N D picks bx b5 pre W) (hk : Keeps W W' S) (hS : ∀ x ∈ S, Ws.heap.size ≤ x) (hN : N ≤ Ws.heap.size) (hbx : bx < Ws.heap.size) (hb5 : b5 < Ws.heap.size) : CrSt Ws N D picks bx b5 pre W' := by
  obtain ⟨M, ps, A, cap, h1, h2, h3, h4, h5, h6⟩ := h.ex
  refine ⟨⟨M, ps, A, cap, h1, h2.keep hk (fun hm => by have := hS _ hm; omega), h3, h4.keep hk (fun hm => by have := hS _ hm; omega), h5.keep hk (Nat.le_trans hN h.k.size) (fun x hx => Nat.le_trans hN (hS x hx)), h6⟩, h.k.trans hk (fun x hx hlt => by have := hS x hx; omega)⟩
theorem CrSt.own {Ws A B : World} {N : Nat} {D : Dk} {picks : List Int} {bx b5 : Nat} {pre : List (Int × Nat)} {row : Option Nat} (h : CrSt Ws N D picks bx b5 pre A) (hg : A.grownBy B row) (hr : ∀ r, row = some r → Ws.heap.size ≤ r) (hN : N ≤ Ws.heap.size) (hbx : bx < Ws.heap.size) (hb5 : b5 < Ws.heap.size) : CrSt Ws N D picks bx b5 pre B :=
  h.keeps (Keeps.of_grown hg) (fun x hx => hr x (by simpa using hx)) hN hbx hb5
theorem Row.ownF {A B : World} {g : Nat} {t : TypeId} {cs : Array Value} {row : Option Nat} (h : Row A g t cs) (hg : A.grownBy B row) (hr : ∀ r, row = some r → ∃ o : Obj, A.heap[r]? = some o ∧ o.isCells = false) : Row B g t cs :=
  h.keep (Keeps.of_grown hg) (fun hm => by
    obtain ⟨o, ho, hc⟩ := hr g (by simpa using hm)
    rw [h] at ho
    cases ho
    cases hc)
theorem KeepsFrom.of_keepsS {W W' : World} {S : List Nat} (h : Keeps W W' S) (B : Nat) (hS : ∀ x ∈ S, x < B) : KeepsFrom B W W' := ⟨h.size, fun k o hk h0 _ => (h.block k (Array.getElem?_eq_some_iff.1 h0).1 (fun hm => by have := hS k hm; omega)).trans h0⟩
theorem secStep_pick {L : List (Int × List UInt8)} {M : Int → Option (List UInt8)} {p xp : Int} {ps : List Int} {q nx k : Nat} {b pg : List UInt8} (hq : roundOf p nx = (q : Int) + 1) (hn : (pagesOf L xp).length = nx) (hb : (pagesOf L xp).getD q [] = b) (hp : (M xp).getD nought = pg) :
    secStep L (M, p :: ps) (xp, k) = (fun y => if y = xp then some (graft pg b k) else M y, ps) := by
  show (if roundOf p (pagesOf L xp).length = 0 then (M, ps) else (fun y => if y = xp then some (graft ((M xp).getD nought) ((pagesOf L xp).getD ((roundOf p (pagesOf L xp).length).toNat - 1) []) k) else M y, ps)) = _
  rw [hn, if_neg (by rw [hq]; omega), hq, show ((q : Int) + 1).toNat - 1 = q by omega, hb, hp]
theorem pageF_upd (M : Int → Option (List UInt8)) (p : Int) (b : List UInt8) : upd (pageF M) p (some (leafV b)) = pageF (fun y => if y = p then some b else M y) := by
  funext x
  by_cases hx : x = p
  · subst hx
    rw [upd_same]
    simp [pageF]
  · rw [upd_other _ hx]
    simp [pageF, hx]
theorem pagesOk_upd {n : Nat} {L : List (Int × List UInt8)} {M : Int → Option (List UInt8)} {p : Int} {z : List UInt8} (h : PagesOk n M) (hw : ∀ q ∈ L, 0 ≤ q.1 ∧ q.1 < n ∧ q.2.length = 256) (hp : pagesOf L p ≠ []) (hz : z.length = 256) : PagesOk n (fun y => if y = p then some z else M y) := by
  intro x c hx
  by_cases e : x = p
  · subst e
    obtain ⟨b, hb⟩ := List.exists_mem_of_ne_nil _ hp
    have h1 := hw _ (pagesOf_in hb)
    simp at hx
    subst hx
    exact ⟨h1.1, h1.2.1, hz⟩
  · simp only [e, if_false] at hx
    exact h x c hx
set_option maxRecDepth 100000 in
set_option maxHeartbeats 4000000 in
theorem dkCrash_in (n : Nat) (hn : 3 ≤ n) {w : World} {d m1 m2 : Nat} {V : Value} {D : Dk} (h : DkAt w d m1 m2 V D) (hl : D.waits.length ≤ 1000000) (A : Option Addr) (cap : Nat) (picks : List Int) (hp : Lies w w.heap.size A (picks.map encZ)) (hcap : picks.length ≤ cap) :
    CallsIn Fence.wide n Try.prog 19 #[.pointer (some ⟨d, 0, none⟩), .slice A picks.length cap] w (CrashPost w D picks) := by
  have h1 : 1 ≤ n := by omega
  have hro : Fence.wide.round = none := rfl
  have H := Lib.hid h
  have HL := Lib.hid hl
  have HP := Lib.hid (And.intro hp hcap)
  clear h hl hp hcap
  refine callsIn_of_wp_marks Try.func19 rfl trivial ?_ hro
  simp only [Try.ntmps19, List.size_toArray, List.length_cons, List.length_nil, Nat.reduceAdd, Nat.reduceSub, Array.replicate_succ, Array.replicate_zero, List.push_toArray, List.append_toArray, List.nil_append, List.cons_append]
  gi_wp2_with fail
  obtain ⟨W0, hW0⟩ : ∃ W0, w.alloc (.cells #[.slice A picks.length cap] 37) = W0 := ⟨_, rfl⟩
  have q0 : Row W0 w.heap.size 37 #[.slice A picks.length cap] := by rw [← hW0]; exact Row.new _ _ _
  have k0 : Keeps w W0 [] := by rw [← hW0]; exact Keeps.alloc _ _
  have s0 : W0.heap.size = w.heap.size + 1 := by rw [← hW0]; simp
  rw [hW0]
  have H0 := Lib.hid (And.intro (H.out.keeps k0) (And.intro q0 (And.intro k0 s0)))
  have f2 := H0.out.1.row.cell 2
  simp only [dkRow, List.getElem?_toArray, List.getElem?_cons_zero, List.getElem?_cons_succ] at f2
  clear q0 k0 s0 hW0
  refine ⟨trivial, (callsIn_of rfl (dkNone_any H0.out.1)).mono ?_⟩
  rintro e w1 ⟨rfl, rfl⟩
  gi_wp2_with fail
  refine ⟨trivial, (callsIn_of rfl (dkNew_any W0 (D.pages : Nat))).mono ?_⟩
  intro e w1 hmade
  unfold DkMade at hmade
  rw [if_pos (by have := H.out.ok.p2; have := H.out.ok.p4; omega)] at hmade
  obtain ⟨c, n1, n2, rfl, hc, c1, c2, c3, hk⟩ := hmade
  rw [Int.toNat_natCast] at hc
  gi_wp2_with fail
  obtain ⟨W1, hW1⟩ : ∃ W1, w1.alloc (.cells #[.pointer (some ⟨c, 0, none⟩)] 24) = W1 := ⟨_, rfl⟩
  have q1 : Row W1 w1.heap.size 24 #[.pointer (some ⟨c, 0, none⟩)] := by rw [← hW1]; exact Row.new _ _ _
  have k1 : Keeps w1 W1 [] := by rw [← hW1]; exact Keeps.alloc _ _
  have s1 : W1.heap.size = w1.heap.size + 1 := by rw [← hW1]; simp
  rw [hW1]
  have kk : Keeps W0 W1 [] := hk.trans k1 (by simp)
  have H1 := Lib.hid (And.intro (H0.out.1.keeps kk) (And.intro (H0.out.2.1.keeps kk) (And.intro (hc.keeps k1) (And.intro q1 (And.intro (show Keeps w W1 [] from H0.out.2.2.1.trans kk (by simp)) (And.intro s1 (And.intro hk.size (And.intro c1 (And.intro c2 c3)))))))))
  obtain ⟨b6, hb6⟩ : ∃ b6, w1.heap.size = b6 := ⟨_, rfl⟩
  rw [hb6] at H1 ⊢
  have M3 := fun (W' : World) (hW : Keeps W1 W' []) => (H1.out.1.row.keeps hW).cell 3
  have M6 := fun (W' : World) (hW : Keeps W1 W' []) => (H1.out.2.2.2.1.keeps hW).cell 0
  have C0 := fun (W' : World) (hW : Keeps W1 W' []) => (H1.out.2.2.1.row.keeps hW).cell 0
  simp only [dkRow, List.getElem?_toArray, List.getElem?_cons_zero, List.getElem?_cons_succ] at M3 M6 C0
  clear f2 hc c1 c2 c3 hk q1 k1 s1 kk hW1
  gi_wp2_with fail
  refine wpIn_region_tail rfl _ 8 (by kernel_rfl) rfl (by kernel_rfl) (by kernel_rfl) ?_
  simp only [List.take_succ_cons, List.take_zero, List.drop_succ_cons, List.drop_zero]
  apply loose_is
  · intro W vals hW hkn
    clear hkn
    refine ⟨?_⟩
    simp only [fill]
    go_simp
    first | exact ⟨Keeps.refl _ _, rfl⟩ | exact ⟨Keeps.alloc _ _, rfl⟩
  simp only [addEnt]
  apply loose_is
  · intro W vals hW hkn
    clear hkn
    refine ⟨?_⟩
    simp only [fill]
    go_simp
    first | exact ⟨Keeps.refl _ _, rfl⟩ | exact ⟨Keeps.alloc _ _, rfl⟩
  simp only [addEnt]
  apply loose_is
  · intro W vals hW hkn
    clear hkn
    refine ⟨?_⟩
    simp only [fill]
    go_simp
    first | exact ⟨Keeps.refl _ _, rfl⟩ | exact ⟨Keeps.alloc _ _, rfl⟩
  simp only [addEnt]
  apply loose_is
  · intro W vals hW hkn
    clear hkn
    refine ⟨?_⟩
    simp only [fill]
    go_simp
    first | exact ⟨Keeps.refl _ _, rfl⟩ | exact ⟨Keeps.alloc _ _, rfl⟩
  simp only [addEnt]
  apply loose_is
  · intro W vals hW hkn
    clear hkn
    refine ⟨?_⟩
    simp only [fill]
    go_simp
    first | exact ⟨Keeps.refl _ _, rfl⟩ | exact ⟨Keeps.alloc _ _, rfl⟩
  simp only [addEnt]
  refine loose_has (fun v W' => ∃ b, v = .map (some b) ∧ DMap W' b D.lasts ∧ W1.heap.size ≤ b) (fun W vals hW hkn φ' hφ => ?_) ?_
  · simp only [knows] at hkn
    try simp only [and_true] at hkn
    clear hkn
    refine ⟨?_⟩
    simp only [fill]
    go_simp
    (with_reducible refine looseUpon_has hφ ?_; refine (cloneD_any (H1.out.1.l.keep hW (by simp))).mono ?_; rintro e w5 ⟨rfl, h, hk⟩; exact ⟨_, rfl, hk, _, rfl, h, hW.size⟩)
  simp only [addEnt]
  apply loose_is
  · intro W vals hW hkn
    clear hkn
    refine ⟨?_⟩
    simp only [fill]
    go_simp
    first | exact ⟨Keeps.refl _ _, rfl⟩ | exact ⟨Keeps.alloc _ _, rfl⟩
  simp only [addEnt]
  apply loose_is
  · intro W vals hW hkn
    clear hkn
    refine ⟨?_⟩
    simp only [fill]
    go_simp
    first | exact ⟨Keeps.refl _ _, rfl⟩ | exact ⟨Keeps.alloc _ _, rfl⟩
  simp only [addEnt]
  refine loose_nil (fun W vals hW hkn => ?_)
  simp only [knowsAll] at hkn
  try simp only [and_true] at hkn
  simp only [fill, Act.put, List.setIfInBounds_toArray, List.set_cons_succ, List.set_cons_zero]
  obtain ⟨W3, g1, g2, b5, hv5, hm5, hb5⟩ := hkn
  rw [hv5]
  have hm5' := hm5.keep g2 (by simp)
  have hrc := H1.out.2.2.1.row.keeps hW
  have e4 := hrc.cell 4
  have z4 := hrc.frozen 4
  simp only [dkRow, List.getElem?_toArray, List.getElem?_cons_zero, List.getElem?_cons_succ] at e4
  have H5 := Lib.hid (And.intro hm5' (And.intro hb5 (And.intro hrc (show Keeps W1 W [] from hW))))
  clear g1 g2 hv5 hm5 hb5 hm5' hrc hW M3 M6 C0
  refine ⟨?_⟩
  gi_wp2_with fail
  obtain ⟨W5, hW5⟩ : ∃ W5, W.setCell ⟨c, 4, none⟩ (.map (some b5)) = W5 := ⟨_, rfl⟩
  have k5 : Keeps W W5 [c] := by rw [← hW5]; exact Keeps.setCell _ _ _
  have r5 : Row W5 c 67 (dkRow (Dk.fresh D.pages) n1 b5 (.slice none 0 0)) := by rw [← hW5]; exact H5.out.2.2.1.store 4 (.map (some b5))
  rw [hW5]
  have hsz : d < w.heap.size ∧ m1 < w.heap.size ∧ m2 < w.heap.size := ⟨H.out.row.lt, H.out.l.lt, H.out.n.lt⟩
  have hcl : c < w1.heap.size := by have h1 := H1.out.2.2.1.row.lt; have h2 := H1.out.2.2.2.2.2.1; have h3 := Row.ne_type H1.out.2.2.1.row H1.out.2.2.2.1 (by decide); omega
  have hd5 : DkAt W5 d m1 m2 V D := (H1.out.1.keeps H5.out.2.2.2).keep k5 (by have := H1.out; have := H0.out.2.2.2; simp; omega) (by have := H1.out; have := H0.out.2.2.2; simp; omega) (by have := H1.out; have := H0.out.2.2.2; simp; omega) (fun x hx cs h => by
    obtain rfl := List.mem_singleton.1 hx
    exact Row.ne_type h (H5.out.2.2.1.keep (Keeps.refl W []) (by simp)) (by decide) rfl)
  have hN5 : W5.heap.size = W.heap.size := by rw [← hW5]; simp
  have H6 := Lib.hid (And.intro hd5 (And.intro k5 (And.intro r5 (And.intro hN5 (And.intro hsz hcl)))))
  clear hd5 k5 r5 hN5 hsz hcl hW5 e4 z4
  refine ⟨trivial, (callsIn_of rfl (dkSectors_any W5 d m1 m2 V D H6.out.1 HL.out)).mono ?_⟩
  rintro e Ws ⟨r, bm, f, rfl, hrr, hby, hrl, hbl, hks⟩
  have H7 := Lib.hid (And.intro hrr (And.intro hby (And.intro hrl (And.intro hbl hks))))
  have hWs : b5 < Ws.heap.size ∧ w.heap.size < Ws.heap.size ∧ b6 < Ws.heap.size ∧ c < Ws.heap.size ∧ r < Ws.heap.size ∧ bm < Ws.heap.size := by
    have a1 := hks.size
    have a2 := H6.out.2.2.2.1
    have a3 := H5.out.1.lt
    have a4 := H5.out.2.2.2.size
    have a5 := H1.out.2.2.2.2.2.1
    have a6 := H6.out.2.2.2.2.2
    have a7 := H1.out.2.2.2.2.2.2.1
    have a8 := H0.out.2.2.2
    have a9 := hrr.lt
    have a10 := IMap.lt hby.m
    omega
  have HS := Lib.hid hWs
  clear hrr hby hrl hbl hks hWs
  gi_wp2_with fail
  have hcb : c ≠ b5 ∧ c ≠ w.heap.size ∧ b6 ≠ c ∧ b6 ≠ b5 ∧ b6 ≠ w.heap.size ∧ w.heap.size < b5 ∧ w.heap.size < c := by
    have := H1.out.2.2.2.2.2.2.2.1
    have := H0.out.2.2.2
    have := H5.out.2.1
    have := H6.out.2.2.2.2.2
    have := H1.out.2.2.2.2.2.1
    have := H1.out.2.2.2.2.2.2.1
    omega
  have kx : Keeps W1 Ws [c] := ((H5.out.2.2.2.weaken (T := [c]) (by simp)).trans H6.out.2.1 (fun _ h _ => h)).trans (H7.out.2.2.2.2.weaken (by simp)) (fun _ h _ => h)
  have ky : Keeps w Ws [] := H1.out.2.2.2.2.1.trans kx (fun x hx hlt => by
    simp at hx
    omega)
  have hst : CrSt Ws w.heap.size D picks w.heap.size b5 [] Ws :=
    ⟨⟨D.lasts, picks, A, cap, rfl, (H5.out.1.keep H6.out.2.1 (by simpa using fun e => hcb.1 e.symm)).keep H7.out.2.2.2.2 (by simp), H.out.ok.l, H1.out.2.1.keep kx (by simpa using fun e => hcb.2.1 e.symm), HP.out.1.below (ky.below (Nat.le_refl _) (by simp)), HP.out.2⟩, Keeps.refl _ _⟩
  have HY := Lib.hid (And.intro (show Row Ws c 67 (dkRow (Dk.fresh D.pages) n1 b5 (.slice none 0 0)) from H6.out.2.2.1.keeps H7.out.2.2.2.2) (And.intro (show Row Ws b6 24 #[.pointer (some ⟨c, 0, none⟩)] from H1.out.2.2.2.1.keep kx (by simpa using hcb.2.2.1)) (And.intro ky hcb)))
  clear kx ky hcb
  have HST := Lib.hid hst
  clear hst
  have hne : r ≠ w.heap.size ∧ r ≠ b5 ∧ bm ≠ w.heap.size ∧ bm ≠ b5 := by
    have a1 := H7.out.2.2.1
    have a2 := H7.out.2.2.2.1
    have a3 := H6.out.2.2.2.1
    have a4 := H5.out.1.lt
    have a5 := H5.out.2.2.2.size
    have a6 := H1.out.2.2.2.2.1.size
    have a7 := H1.out.2.1.lt
    omega
  refine wpIn_rangeFunc_ownH hro h1 (gf := 45) (lb := #[.pointer (some ⟨r, 0, none⟩)]) rfl trivial (enters_of Try.func45 (by kernel_rfl) rfl)
    (sec1_stops Fence.wide (n - 1) rfl trivial hro (by omega) Ws.heap.size [w.heap.size, b5] r W5.heap.size bm D.waits f Ws (Nat.le_refl _) (fun x hx => by have := HS.out; simp at hx; omega) ⟨HS.out.2.2.2.2.1, by simp; omega⟩ ⟨HS.out.2.2.2.2.2, by simp; omega⟩ (H7.out.1.cell 0) H7.out.2.1)
    KpS.t (KpS.put (Nat.le_refl _)) (Below.refl _ _) (fun _ => rfl)
    (fun (pre : List (Sec D.waits)) W' => CrSt Ws w.heap.size D picks w.heap.size b5 (pre.map fun (x : Sec D.waits) => (x.1 : Int × Nat)) W')
    (fun _ _ _ => False)
    (fun pre A B row hs hg hr => hs.own hg (fun r e => (hr r e).1) (Nat.le_of_lt HS.out.2.1) HS.out.2.1 HS.out.1)
    (fun _ _ _ _ _ hs _ _ => hs)
    HST.out
    (fun x a' W' => ∃ g, a' = { tmps := #[.pointer (some ⟨d, 0, none⟩), .slice A picks.length cap, undef, .pointer (some ⟨w.heap.size, 0, none⟩), .pointer none, .int .i64 0, .pointer (some ⟨b6, 0, none⟩), .int .i64 0, .pointer (some ⟨g, 0, none⟩), (f x.1.1).getD (.slice none 0 0), undef, undef, undef, undef, .pointer (some ⟨d, 0, none⟩), .bool false, .tuple #[.pointer (some ⟨c, 0, none⟩), .int .i64 0], .pointer (some ⟨d, 0, none⟩), .pointer (some ⟨d, 0, none⟩), .pointer (some ⟨d, 2, none⟩), .int .i64 (D.pages : Nat), .tuple #[.pointer (some ⟨c, 0, none⟩), .int .i64 0], .pointer (some ⟨c, 0, none⟩), .int .i64 0, .pointer (some ⟨c, 0, none⟩), .pointer (some ⟨d, 0, none⟩), .pointer (some ⟨d, 0, none⟩), .pointer (some ⟨d, 3, none⟩), .map (some m1), .map (some b5), .pointer (some ⟨c, 0, none⟩), .pointer (some ⟨c, 4, none⟩), .pointer (some ⟨d, 0, none⟩), .func (.func 45) #[] #[.pointer (some ⟨r, 0, none⟩)], .agg #[.int .i64 x.1.1, .int .i64 (x.1.2 : Nat)], (f x.1.1).getD (.slice none 0 0), undef, undef, undef, undef, undef, undef, undef, undef, undef, undef, undef, undef, undef, undef, undef, undef, undef, undef, undef, undef, undef, undef, undef, undef, undef, undef, undef, undef, undef, undef, undef, undef, undef, undef, undef, undef, undef, undef, undef, undef, undef, undef, undef, undef, undef, undef, undef, undef, undef, undef, undef, undef, undef, undef], defers := [] } ∧ Row W' g 83 #[.int .i64 x.1.1, .int .i64 (x.1.2 : Nat)] ∧ Ws.heap.size ≤ g)
    (fun _ _ _ _ _ _ hs hg hr => by
      obtain ⟨g, h1, h2, h3⟩ := hs
      exact ⟨g, h1, h2.ownF hg (fun r e => (hr r e).2), h3⟩) ?assign ?body ?done ?stop
  case assign =>
    intro l pre x W1 K hI hK
    unfold secArgs
    gi_wp2
    have hk := Keeps.alloc W1 (.cells #[.int .i64 x.1.1, .int .i64 (x.1.2 : Nat)] 83)
    exact hK _ _ (KeepsFrom.of_keepsS hk _ (by simp)) (KpS.of (hk.weaken (by simp)) hI.k.size) (hI.keeps hk (by simp) (Nat.le_of_lt HS.out.2.1) HS.out.2.1 HS.out.1) ⟨_, rfl, Row.new _ _ _, hI.k.size⟩
  case stop =>
    rintro D c pre W _ _ h _
    exact h.elim
  case done =>
    rintro Db ys WA hD hys hI hK
    obtain ⟨M, ps, A9, cap9, hrun, hm, hok, -, -, -⟩ := hI.ex
    have hc9 : Row WA c 67 (dkRow (Dk.fresh D.pages) n1 b5 (.slice none 0 0)) := HY.out.1.keep hI.k (by have := HY.out.2.2.2; simp; omega)
    have hb9 : Row WA b6 24 #[.pointer (some ⟨c, 0, none⟩)] := HY.out.2.1.keep hI.k (by have := HY.out.2.2.2; simp; omega)
    have HA := Lib.hid (And.intro hc9 (And.intro hb9 (And.intro hm (And.intro hI.k (And.intro hrun (And.intro hok (And.intro hK (And.intro hD hys))))))))
    have M4 := fun (W' : World) (hW : Keeps WA W' []) => (HA.out.1.keeps hW).cell 4
    have C0 := fun (W' : World) (hW : Keeps WA W' []) => (HA.out.1.keeps hW).cell 0
    have B0 := fun (W' : World) (hW : Keeps WA W' []) => (HA.out.2.1.keeps hW).cell 0
    simp only [dkRow, List.getElem?_toArray, List.getElem?_cons_zero, List.getElem?_cons_succ] at M4 C0 B0
    clear hc9 hb9 hrun hm hok hI hK hD hys
    gi_wp2_with fail
    refine wpIn_region_tail rfl _ 8 (by kernel_rfl) rfl (by kernel_rfl) (by kernel_rfl) ?_
    simp only [List.take_succ_cons, List.take_zero, List.drop_succ_cons, List.drop_zero]
    apply loose_is
    · intro W vals hW hkn
      clear hkn
      refine ⟨?_⟩
      simp only [fill]
      go_simp
      first | exact ⟨Keeps.refl _ _, rfl⟩ | exact ⟨Keeps.alloc _ _, rfl⟩
    simp only [addEnt]
    apply loose_is
    · intro W vals hW hkn
      clear hkn
      refine ⟨?_⟩
      simp only [fill]
      go_simp
      first | exact ⟨Keeps.refl _ _, rfl⟩ | exact ⟨Keeps.alloc _ _, rfl⟩
    simp only [addEnt]
    apply loose_is
    · intro W vals hW hkn
      clear hkn
      refine ⟨?_⟩
      simp only [fill]
      go_simp
      first | exact ⟨Keeps.refl _ _, rfl⟩ | exact ⟨Keeps.alloc _ _, rfl⟩
    simp only [addEnt]
    apply loose_is
    · intro W vals hW hkn
      clear hkn
      refine ⟨?_⟩
      simp only [fill]
      go_simp
      first | exact ⟨Keeps.refl _ _, rfl⟩ | exact ⟨Keeps.alloc _ _, rfl⟩
    simp only [addEnt]
    apply loose_is
    · intro W vals hW hkn
      clear hkn
      refine ⟨?_⟩
      simp only [fill]
      go_simp
      first | exact ⟨Keeps.refl _ _, rfl⟩ | exact ⟨Keeps.alloc _ _, rfl⟩
    simp only [addEnt]
    refine loose_has (fun v W' => ∃ b, v = .map (some b) ∧ DMap W' b M ∧ WA.heap.size ≤ b) (fun W vals hW hkn φ' hφ => ?_) ?_
    · simp only [knows] at hkn
      try simp only [and_true] at hkn
      clear hkn
      refine ⟨?_⟩
      simp only [fill]
      go_simp
      (with_reducible refine looseUpon_has hφ ?_; refine (cloneD_any (HA.out.2.2.1.keep hW (by simp))).mono ?_; rintro e w5 ⟨rfl, h, hk⟩; exact ⟨_, rfl, hk, _, rfl, h, hW.size⟩)
    simp only [addEnt]
    apply loose_is
    · intro W vals hW hkn
      clear hkn
      refine ⟨?_⟩
      simp only [fill]
      go_simp
      first | exact ⟨Keeps.refl _ _, rfl⟩ | exact ⟨Keeps.alloc _ _, rfl⟩
    simp only [addEnt]
    apply loose_is
    · intro W vals hW hkn
      clear hkn
      refine ⟨?_⟩
      simp only [fill]
      go_simp
      first | exact ⟨Keeps.refl _ _, rfl⟩ | exact ⟨Keeps.alloc _ _, rfl⟩
    simp only [addEnt]
    refine loose_nil (fun W vals hW hkn => ?_)
    simp only [knowsAll] at hkn
    try simp only [and_true] at hkn
    simp only [fill, Act.put, List.setIfInBounds_toArray, List.set_cons_succ, List.set_cons_zero]
    obtain ⟨W3, g1, g2, b8, hv8, hm8, hb8⟩ := hkn
    rw [hv8]
    have hm8' := hm8.keep g2 (by simp)
    have hr9 := HA.out.1.keeps hW
    have e3 := hr9.cell 3
    have z3 := hr9.frozen 3
    have eb := fun u => ((HA.out.2.1.keeps hW).far (p := ⟨c, 3, none⟩) (show b6 ≠ c from HY.out.2.2.2.2.2.1) u).cell 0
    simp only [dkRow, List.getElem?_toArray, List.getElem?_cons_zero, List.getElem?_cons_succ] at e3
    have H8 := Lib.hid (And.intro hm8' (And.intro hb8 (And.intro hr9 (show Keeps WA W [] from hW))))
    clear g1 g2 hv8 hm8 hb8 hm8' hr9 hW M4 C0 B0
    refine ⟨?_⟩
    gi_wp2_with fail
    obtain ⟨hc9, hb9, hm9, hk9, hrun, hok, hK, hD, hys⟩ := HA.out
    obtain ⟨hm8, hb8, hr9, hW⟩ := H8.out
    obtain ⟨-, -, ky, hcb⟩ := HY.out
    have hM : (secRun D.waits (secList D.waits) D.lasts picks).1 = M := by rw [← hys, hrun]
    have hsW := hW.size
    have hsA := hk9.size
    have hss := HS.out
    have hKW := (hW.block Db (Array.getElem?_eq_some_iff.1 hK).1 (by simp)).trans hK
    have k8 : Keeps W (W.setCell ⟨c, 3, none⟩ (.map (some b8))) [c] := Keeps.setCell _ _ _
    have hK8 := (k8.block Db (Array.getElem?_eq_some_iff.1 hKW).1 (by simp; omega)).trans hKW
    have kp : Keeps (W.setCell ⟨c, 3, none⟩ (.map (some b8))) ((W.setCell ⟨c, 3, none⟩ (.map (some b8))).putObj Db (.deferred none)) [Db] := Keeps.of_grown (grownBy_putObj' _ Db _)
    have hrow := (hr9.store 3 (.map (some b8))).keep kp (by simp; omega)
    have hDb : Db < WA.heap.size := (Array.getElem?_eq_some_iff.1 hK).1
    have hma := (hm8.keep k8 (by simp; omega)).keep kp (by simp; omega)
    have hmb := ((hm9.keep hW (by simp)).keep k8 (by simp; omega)).keep kp (by simp; omega)
    have hok8 : DkOk (D.crash picks) := by
      have hp := DkOk.fresh (n := D.pages) ⟨H.out.ok.p2, H.out.ok.p4⟩
      exact ⟨hp.p2, hp.p4, by show PagesOk D.pages (secRun D.waits (secList D.waits) D.lasts picks).1; rw [hM]; exact hok, by show PagesOk D.pages (secRun D.waits (secList D.waits) D.lasts picks).1; rw [hM]; exact hok, hp.w, hp.k, hp.s, hp.lf⟩
    refine ⟨by simp, .inl ⟨_, _, rfl, run_takeDeferred hK8, ?_⟩⟩
    refine ⟨_, results_tmp2 rfl _ _ _, c, b8, b5, rfl, ⟨hrow, ?_, ?_, WaitsAt.nil _ _, by omega, hok8⟩, by omega, by omega, by omega, ?_⟩
    · show DMap _ b8 (secRun D.waits (secList D.waits) D.lasts picks).1
      rw [hM]
      exact hma
    · show DMap _ b5 (secRun D.waits (secList D.waits) D.lasts picks).1
      rw [hM]
      exact hmb
    · exact (((ky.trans hk9 (fun x hx hlt => by simp at hx; omega)).trans hW (by simp)).trans k8 (fun x hx hlt => by simp at hx; omega)).trans kp (fun x hx hlt => by simp at hx; omega)
  case body =>
    rintro l pre ⟨⟨xp, xk⟩, hxs⟩ a' WA hl _ hI ⟨g, rfl, hg, hgl⟩ hpre
    dsimp only at hg ⊢
    have hxin : xp ∈ secKeys D.waits := hxs.1
    have hxk : xk < 4 := hxs.2
    have hxb := secKeys_in hxin
    obtain ⟨gv, vc, hV, hgv⟩ : ∃ gv vc, (f xp).getD (.slice none 0 0) = .slice (some ⟨gv, 0, none⟩) (pagesOf D.waits xp).length vc ∧ W5.heap.size ≤ gv := by
      rcases (H7.out.2.1.get xp).2 with ⟨hv, h0⟩ | ⟨gv, vc, cur, hv, hgv, _⟩
      · exact absurd (List.eq_nil_of_length_eq_zero h0) hxb.2.2
      · exact ⟨gv, vc, hv, hgv⟩
    rw [hV]
    obtain ⟨M, ps, A9, cap9, hrun, hm, hok, hbx, hlie, hcap⟩ := hI.ex
    have HI := Lib.hid (And.intro hI (And.intro hrun (And.intro hm (And.intro hok (And.intro hbx (And.intro hlie (And.intro hcap (And.intro hg (And.intro hgl (And.intro hxin (And.intro hxk (And.intro hxb (And.intro hV hgv)))))))))))))
    have bc := hbx.cell 0
    have bf := hbx.frozen 0
    simp only [List.getElem?_toArray, List.getElem?_cons_zero] at bc
    clear hI hrun hm hok hbx hlie hcap hg hgl hxin hxk hxb hV hgv hpre
    cases ps with
    | nil =>
      replace bc : WA.cell? ⟨w.heap.size, 0, none⟩ = some (.slice A9 0 cap9) := bc
      gi_wp2_with fail
      refine ⟨KeepsFrom.refl _ _, KpS.refl _ _ _, ⟨M, [], A9, cap9, ?_, HI.out.2.2.1, HI.out.2.2.2.1, HI.out.2.2.2.2.1, HI.out.2.2.2.2.2.1, HI.out.2.2.2.2.2.2.1⟩, HI.out.1.k⟩
      rw [List.map_append, List.map_singleton, secRun_snoc, HI.out.2.1]
      rfl
    | cons p ps =>
      obtain ⟨g9, o9, rfl, hg9, hcl9⟩ := HI.out.2.2.2.2.2.1 (by simp)
      have hp0 := hcl9 0 (.int .i64 p) (by simp [encZ])
      have HG := Lib.hid (And.intro hg9 hcl9)
      have hln : ((p :: ps).length : Nat) = ps.length + 1 := by simp
      rw [hln] at bc
      have hcp : ps.length + 1 ≤ cap9 := by have := HI.out.2.2.2.2.2.2.1; simpa using this
      rw [Nat.add_zero] at hp0
      have B0 := fun (W' : World) (hW : Keeps WA W' []) => (hW.cell (p := ⟨w.heap.size, 0, none⟩) (by have := HI.out.2.2.2.2.1.lt; exact this) (by simp)).trans bc
      have P0 := fun (W' : World) (hW : Keeps WA W' []) => (hW.cell (p := ⟨g9, o9, none⟩) (by have := HI.out.1.k.size; have := HS.out; simp; omega) (by simp)).trans hp0
      obtain ⟨nx, hnx⟩ : ∃ nx, (pagesOf D.waits xp).length = nx := ⟨_, rfl⟩
      have hnb : nx ≤ 1000000 := by rw [← hnx]; unfold pagesOf; rw [List.length_map]; exact Nat.le_trans (List.length_filter_le _ _) HL.out
      have HNX := Lib.hid (And.intro hnx hnb)
      rw [hnx]
      have hl1 : (1 : Int) ≤ ps.length + 1 := by omega
      clear hg9 hcl9 hln hp0 hnx hnb
      gi_wp2_with fail
      refine wpIn_region_tail rfl _ 9 (by kernel_rfl) rfl (by kernel_rfl) (by kernel_rfl) ?_
      simp only [List.take_succ_cons, List.take_zero, List.drop_succ_cons, List.drop_zero]
      apply loose_is
      · intro W vals hW hkn
        clear hkn
        refine ⟨?_⟩
        simp only [fill]
        go_simp
        first | exact ⟨Keeps.refl _ _, rfl⟩ | exact ⟨Keeps.alloc _ _, rfl⟩
      simp only [addEnt]
      apply loose_is
      · intro W vals hW hkn
        clear hkn
        refine ⟨?_⟩
        simp only [fill]
        go_simp
        first | exact ⟨Keeps.refl _ _, rfl⟩ | exact ⟨Keeps.alloc _ _, rfl⟩
      simp only [addEnt]
      apply loose_is
      · intro W vals hW hkn
        clear hkn
        refine ⟨?_⟩
        simp only [fill]
        go_simp
        first | exact ⟨Keeps.refl _ _, rfl⟩ | exact ⟨Keeps.alloc _ _, rfl⟩
      simp only [addEnt]
      apply loose_is
      · intro W vals hW hkn
        clear hkn
        refine ⟨?_⟩
        simp only [fill]
        go_simp
        first | exact ⟨Keeps.refl _ _, rfl⟩ | exact ⟨Keeps.alloc _ _, rfl⟩
      simp only [addEnt]
      apply loose_is
      · intro W vals hW hkn
        clear hkn
        refine ⟨?_⟩
        simp only [fill]
        go_simp
        first | exact ⟨Keeps.refl _ _, rfl⟩ | exact ⟨Keeps.alloc _ _, rfl⟩
      simp only [addEnt]
      apply loose_is
      · intro W vals hW hkn
        clear hkn
        refine ⟨?_⟩
        simp only [fill]
        go_simp
        refine looseUpon_calls ?_
        exact (round_any W p nx (by omega) (by have := HNX.out.2; omega)).mono (by rintro e w3 ⟨rfl, rfl⟩; exact ⟨_, rfl, Keeps.refl _ _, rfl⟩)
      simp only [addEnt]
      apply loose_is
      · intro W vals hW hkn
        clear hkn
        refine ⟨?_⟩
        simp only [fill]
        go_simp
        first | exact ⟨Keeps.refl _ _, rfl⟩ | exact ⟨Keeps.alloc _ _, rfl⟩
      simp only [addEnt]
      apply loose_is
      · intro W vals hW hkn
        clear hkn
        refine ⟨?_⟩
        simp only [fill]
        go_simp
        first | exact ⟨Keeps.refl _ _, rfl⟩ | exact ⟨Keeps.alloc _ _, rfl⟩
      simp only [addEnt]
      apply loose_is
      · intro W vals hW hkn
        clear hkn
        refine ⟨?_⟩
        simp only [fill]
        go_simp
        first | exact ⟨Keeps.refl _ _, rfl⟩ | exact ⟨Keeps.alloc _ _, rfl⟩
      simp only [addEnt]
      refine loose_nil (fun W vals hW hkn => ?_)
      simp only [knowsAll] at hkn
      try simp only [and_true] at hkn
      simp only [fill, Act.put, List.setIfInBounds_toArray, List.set_cons_succ, List.set_cons_zero]
      have HW := Lib.hid (show Keeps WA W [] from hW)
      have bc2 := B0 W hW
      have bf2 := (HI.out.2.2.2.2.1.keeps HW.out).frozen 0
      clear hW hkn B0 P0 bc bf
      obtain ⟨A8, hA8⟩ : ∃ A8, (if cap9 = 1 then some (Addr.mk g9 o9 none) else some (Addr.mk g9 (o9 + 1) none)) = A8 := ⟨_, rfl⟩
      have HA8 := Lib.hid hA8
      rw [hA8]
      clear hA8
      have hcp2 := hcp
      obtain ⟨WB, hWB⟩ : ∃ WB, W.setCell ⟨w.heap.size, 0, none⟩ (.slice A8 ps.length (cap9 - 1)) = WB := ⟨_, rfl⟩
      have kB : Keeps WA WB [w.heap.size] := by rw [← hWB]; exact (HW.out.weaken (by simp)).trans (Keeps.setCell _ _ _) (fun _ h _ => h)
      have rB : Row WB w.heap.size 37 #[.slice A8 ps.length (cap9 - 1)] := by rw [← hWB]; exact (HI.out.2.2.2.2.1.keeps HW.out).store 0 _
      have hlB : Lies WB w.heap.size A8 (ps.map encZ) := fun hpos => by
        have h2 : 0 < ps.length := by simpa using hpos
        refine ⟨g9, o9 + 1, ?_, HG.out.1, fun i u hu => ?_⟩
        · rw [← HA8.out, if_neg (by omega)]
        · have h3 := HG.out.2 (i + 1) u (by simpa using hu)
          rw [show o9 + 1 + i = o9 + (i + 1) by omega]
          exact (kB.cell (p := ⟨g9, o9 + (i + 1), none⟩) (by have := HI.out.1.k.size; have := HS.out; have := HG.out.1; simp; omega) (by have := HG.out.1; simp; omega)).trans h3
      have HB := Lib.hid (And.intro kB (And.intro rB (And.intro hlB (show ps.length ≤ cap9 - 1 by omega))))
      clear kB rB hlB
      by_cases hz : roundOf p nx = 0
      · have hstep : secStep D.waits (M, p :: ps) (xp, xk) = (M, ps) := by
          show (if roundOf p (pagesOf D.waits xp).length = 0 then (M, ps) else _) = _
          rw [HNX.out.1, if_pos hz]
        have HST := Lib.hid hstep
        clear hstep hcp hcp2
        have HWB := Lib.hid hWB
        clear hWB
        refine ⟨?_⟩
        gi_wp2_with fail
        rw [HWB.out]
        have kB := HB.out.1
        refine ⟨KeepsFrom.of_keepsS kB _ (by have := HS.out; simp; omega), KpS.of (kB.weaken (by simp)) HI.out.1.k.size, ⟨M, ps, A8, cap9 - 1, ?_, HI.out.2.2.1.keep kB (by have := HY.out.2.2.2; simp; omega), HI.out.2.2.2.1, HB.out.2.1, HB.out.2.2.1, HB.out.2.2.2⟩, HI.out.1.k.trans kB (fun x hx _ => by simp at hx ⊢; omega)⟩
        rw [List.map_append, List.map_singleton, secRun_snoc, HI.out.2.1]
        exact HST.out
      · have HWB := Lib.hid hWB
        clear hWB hcp hcp2
        refine ⟨?_⟩
        gi_wp2_with fail
        rw [HWB.out]
        have kB := HB.out.1
        have hc8 := (HY.out.1.keep HI.out.1.k (by have := HY.out.2.2.2; simp; omega)).keep kB (by have := HY.out.2.2.2; simp; omega)
        have hb8 := (HY.out.2.1.keep HI.out.1.k (by have := HY.out.2.2.2; simp; omega)).keep kB (by have := HY.out.2.2.2; simp; omega)
        have hg8 := HI.out.2.2.2.2.2.2.2.1.keep kB (by have := HI.out.2.2.2.2.2.2.2.2.1; have := HS.out; simp; omega)
        have hm8 := HI.out.2.2.1.keep kB (by have := HY.out.2.2.2; simp; omega)
        obtain ⟨pg, hpg⟩ : ∃ pg, (M xp).getD nought = pg := ⟨_, rfl⟩
        have hpl : pg.length = 256 := by
          rw [← hpg]
          cases hq : M xp with
          | none => exact nought_length
          | some b => exact (HI.out.2.2.2.1 _ _ hq).2.2
        obtain ⟨X, hX⟩ : ∃ X, leafC pg = X := ⟨_, rfl⟩
        obtain ⟨Z, hZ⟩ : ∃ Z, leafC nought = Z := ⟨_, rfl⟩
        have hz : ∀ w, (zeroValue 72).run Try.prog w = .ok (.agg Z) w := by rw [← hZ]; exact zeroLeaf
        have HX := Lib.hid (show X.size = 256 ∧ X.all (·.oneCell') = true ∧ Z.size = 256 ∧ leafC pg = X from ⟨by rw [← hX, leafC_size, hpl], by rw [← hX]; exact leafC_one _, by rw [← hZ, leafC_size, nought_length], hX⟩)
        have HM := Lib.hid (fun (W' : World) (hW : Keeps WB W' []) => show (Instr.lookup 64 (.map (some b5)) (.int .i64 xp) false).run Try.prog W' = .ok (.agg X) W' by
          have hlk := (hm8.keep hW (by simp)).look undIntD undDisk (zeroLeaf W') (x := xp) (by have := HI.out.2.2.2.2.2.2.2.2.2.2.2.1; omega) (by have := HI.out.2.2.2.2.2.2.2.2.2.2.2.1; omega) false
          rw [if_neg (by decide), pageF_get, leafV, hpg, hX] at hlk
          exact hlk)
        have H12 := Lib.hid (And.intro hc8 (And.intro hb8 (And.intro hg8 (And.intro hm8 (And.intro hpg hpl)))))
        have B6 := fun (W' : World) (hW : Keeps WB W' []) => (H12.out.2.1.keeps hW).cell 0
        have C4 := fun (W' : World) (hW : Keeps WB W' []) => (H12.out.1.keeps hW).cell 4
        have G0 := fun (W' : World) (hW : Keeps WB W' []) => (H12.out.2.2.1.keeps hW).cell 0
        simp only [dkRow, List.getElem?_toArray, List.getElem?_cons_zero, List.getElem?_cons_succ] at B6 C4 G0
        have HXK := Lib.hid (show xk < 4 from HI.out.2.2.2.2.2.2.2.2.2.2.1)
        clear kB hc8 hb8 hg8 hm8 hpg hpl hX hZ
        refine wpIn_region_tail rfl _ 8 (by kernel_rfl) rfl (by kernel_rfl) (by kernel_rfl) ?_
        simp only [List.take_succ_cons, List.take_zero, List.drop_succ_cons, List.drop_zero]
        apply loose_is
        · intro W vals hW hkn
          clear hkn
          refine ⟨?_⟩
          simp only [fill]
          go_simp
          first | exact ⟨Keeps.refl _ _, rfl⟩ | exact ⟨Keeps.alloc _ _, rfl⟩
        simp only [addEnt]
        apply loose_is
        · intro W vals hW hkn
          clear hkn
          refine ⟨?_⟩
          simp only [fill]
          go_simp
          first | exact ⟨Keeps.refl _ _, rfl⟩ | exact ⟨Keeps.alloc _ _, rfl⟩
        simp only [addEnt]
        apply loose_is
        · intro W vals hW hkn
          clear hkn
          refine ⟨?_⟩
          simp only [fill]
          go_simp
          first | exact ⟨Keeps.refl _ _, rfl⟩ | exact ⟨Keeps.alloc _ _, rfl⟩
        simp only [addEnt]
        apply loose_is
        · intro W vals hW hkn
          clear hkn
          refine ⟨?_⟩
          simp only [fill]
          go_simp
          first | exact ⟨Keeps.refl _ _, rfl⟩ | exact ⟨Keeps.alloc _ _, rfl⟩
        simp only [addEnt]
        apply loose_is
        · intro W vals hW hkn
          clear hkn
          refine ⟨?_⟩
          simp only [fill]
          go_simp
          first | exact ⟨Keeps.refl _ _, rfl⟩ | exact ⟨Keeps.alloc _ _, rfl⟩
        simp only [addEnt]
        apply loose_is
        · intro W vals hW hkn
          clear hkn
          refine ⟨?_⟩
          simp only [fill]
          go_simp
          first | exact ⟨Keeps.refl _ _, rfl⟩ | exact ⟨Keeps.alloc _ _, rfl⟩
        simp only [addEnt]
        apply loose_is
        · intro W vals hW hkn
          simp only [knows] at hkn
          try simp only [and_true] at hkn
          have hlk := HM.out W hW
          refine ⟨?_⟩
          simp only [fill]
          go_simp
          first | exact ⟨Keeps.refl _ _, rfl⟩ | exact ⟨Keeps.alloc _ _, rfl⟩
        simp only [addEnt]
        refine loose_has (fun v W' => ∃ gx, v = .pointer (some ⟨gx, 0, none⟩) ∧ Row W' gx 72 Z ∧ WB.heap.size ≤ gx) (fun W vals hW hkn φ' hφ => ?_) ?_
        · simp only [knows] at hkn
          try simp only [and_true] at hkn
          clear hkn
          refine ⟨?_⟩
          simp only [fill]
          go_simp
          exact ⟨Keeps.alloc _ _, hφ.out _ _ ⟨_, rfl, Row.new _ _ _, hW.size⟩⟩
        simp only [addEnt]
        refine loose_nil (fun W vals hW hkn => ?_)
        simp only [knowsAll] at hkn
        try simp only [and_true] at hkn
        simp only [fill, Act.put, List.setIfInBounds_toArray, List.set_cons_succ, List.set_cons_zero]
        obtain ⟨W3, g1, g2, gx, hv11, hrx, hgx⟩ := hkn
        have hrx2 := hrx.keeps g2
        have HRX := Lib.hid (And.intro hrx2 (And.intro hgx (show Keeps WB W [] from hW)))
        rw [hv11]
        clear g1 g2 hv11 hrx hrx2 hgx hW B6 C4 G0
        have hqx : ∃ q : Nat, roundOf p nx = (q : Int) + 1 ∧ q < nx := ⟨(roundOf p nx).toNat - 1, by have := roundOf_range (x := p) (n := nx) (by omega); have := hz; omega, by have := roundOf_range (x := p) (n := nx) (by omega); have := hz; omega⟩
        obtain ⟨q, hq, hqn⟩ := hqx
        have HQ := Lib.hid (And.intro hq hqn)
        rw [hq]
        clear hz hq
        refine ⟨?_⟩
        refine wpListIn_storeLeaf rfl _ _ rfl gx X Z HRX.out.1 HX.out.1 HX.out.2.2.1 HX.out.2.1 (by go_simp) (by go_simp) ?_
        intro w12 hr12 hk12
        have hgW : g < WB.heap.size := H12.out.2.2.1.lt
        have G1 := fun (W' : World) (hW : Keeps w12 W' []) => (((H12.out.2.2.1.keeps HRX.out.2.2).keep hk12 (by have := HRX.out.2.1; simp; omega)).keeps hW).cell 1
        simp only [List.getElem?_toArray, List.getElem?_cons_zero, List.getElem?_cons_succ] at G1
        have H13 := Lib.hid (And.intro hr12 hk12)
        have hx4 := HXK.out
        clear hr12 hk12 hgW
        have hqn2 : (q : Int) < nx := by omega
        have hwq : IntKind.i64.wrap (q : Int) = q := IntWalk.i64_in _ (by have := HNX.out.2; omega)
        have z0 : IntKind.i64.wrap 0 = 0 := IntWalk.i64_in _ (by omega)
        have z1 : IntKind.i64.wrap 1 = 1 := IntWalk.i64_in _ (by omega)
        have z2 : IntKind.i64.wrap 2 = 2 := IntWalk.i64_in _ (by omega)
        have z3 : IntKind.i64.wrap 3 = 3 := IntWalk.i64_in _ (by omega)
        have z4 : IntKind.i64.wrap 4 = 4 := IntWalk.i64_in _ (by omega)
        have z64 : IntKind.i64.wrap 64 = 64 := IntWalk.i64_in _ (by omega)
        have z128 : IntKind.i64.wrap 128 = 128 := IntWalk.i64_in _ (by omega)
        have z192 : IntKind.i64.wrap 192 = 192 := IntWalk.i64_in _ (by omega)
        have z256 : IntKind.i64.wrap 256 = 256 := IntWalk.i64_in _ (by omega)
        have hpg2 : ∀ b ∈ pagesOf D.waits xp, b.length = 256 := fun b hb => (H.out.ok.w _ (pagesOf_in hb)).2.2
        have hql : q < (pagesOf D.waits xp).length := by rw [HNX.out.1]; exact hqn
        have hlv := H7.out.2.1.get xp
        rw [HI.out.2.2.2.2.2.2.2.2.2.2.2.2.1] at hlv
        have hgvl := leaves_lt hlv hpg2 (by omega)
        obtain ⟨b, hbq⟩ : ∃ b, (pagesOf D.waits xp)[q] = b := ⟨_, rfl⟩
        have hb8 : b.length = 256 := by rw [← hbq]; exact hpg2 _ (List.getElem_mem hql)
        have HB8 := Lib.hid hb8
        have hcl : ∀ i v, (b.map byteV)[i]? = some v → Ws.cell? ⟨gv, q * 256 + i, none⟩ = some v := fun i v hv => leaves_cell hlv hpg2 hql (by rw [hbq]; exact hv)
        have kw : Keeps Ws w12 [w.heap.size, b5, gx] := (((HI.out.1.k.weaken (T := [w.heap.size, b5, gx]) (by simp)).trans HB.out.1 (fun x hx _ => by simp at hx ⊢; omega)).trans HRX.out.2.2 (by simp)).trans H13.out.2 (fun x hx _ => by simp at hx ⊢; omega)
        have hgne : gv ≠ w.heap.size ∧ gv ≠ b5 ∧ gv ≠ gx := by
          have a1 := HI.out.2.2.2.2.2.2.2.2.2.2.2.2.2
          have a2 := H6.out.2.2.2.1
          have a3 := H5.out.1.lt
          have a4 := HY.out.2.2.2
          have a5 := HRX.out.2.1
          have a6 := HI.out.1.k.size
          have a7 := HB.out.1.size
          omega
        have HCS := Lib.hid (show (∀ k, k < 4 → (((b.drop (64 * k)).take 64).map byteV).length = 64) ∧ (∀ k, ∀ v ∈ (((b.drop (64 * k)).take 64).map byteV), v.oneCell' = true) ∧ (∀ k, k < 4 → ∀ W', Keeps w12 W' [] → ∀ j v, (((b.drop (64 * k)).take 64).map byteV)[j]? = some v → W'.cell? ⟨gv, q * 256 + 64 * k + j, none⟩ = some v) from by
          refine ⟨fun k hk => by simp [hb8]; omega, fun k v hv => by obtain ⟨c, _, rfl⟩ := List.mem_map.1 hv; rfl, fun k hk W' hW' j v hv => ?_⟩
          have h64 : j < 64 := by
            have := (List.getElem?_eq_some_iff.1 hv).1
            simp at this
            omega
          have h2 : (b.map byteV)[64 * k + j]? = some v := by
            rw [← hv]
            simp [h64]
          have h3 := hcl _ _ h2
          rw [show q * 256 + 64 * k + j = q * 256 + (64 * k + j) by omega]
          exact (hW'.cell (p := ⟨gv, q * 256 + (64 * k + j), none⟩) (Nat.lt_of_lt_of_le hgvl kw.size) (by simp)).trans ((kw.cell (p := ⟨gv, q * 256 + (64 * k + j), none⟩) hgvl (by simp; omega)).trans h3))
        have HKW := Lib.hid (And.intro kw (And.intro hgne (show (pagesOf D.waits xp).getD q [] = b by rw [← hbq]; simp [List.getD_eq_getElem?_getD, hql])))
        clear hpg2 hlv hgvl hb8 hcl kw hgne hbq hql
        obtain rfl | rfl | rfl | rfl : xk = 0 ∨ xk = 1 ∨ xk = 2 ∨ xk = 3 := by omega
        · skip
          gi_wp2_with fail
          refine wpIn_region_keeps rfl _ (by kernel_rfl) rfl (by kernel_rfl) (by kernel_rfl) ?_
          apply loose_is
          · intro W vals hW hkn
            clear hkn
            refine ⟨?_⟩
            simp only [fill]
            go_simp
            first | exact ⟨Keeps.refl _ _, rfl⟩ | exact ⟨Keeps.alloc _ _, rfl⟩
          simp only [addEnt]
          apply loose_is
          · intro W vals hW hkn
            clear hkn
            refine ⟨?_⟩
            simp only [fill]
            go_simp
            first | exact ⟨Keeps.refl _ _, rfl⟩ | exact ⟨Keeps.alloc _ _, rfl⟩
          simp only [addEnt]
          apply loose_is
          · intro W vals hW hkn
            clear hkn
            refine ⟨?_⟩
            simp only [fill]
            go_simp
            first | exact ⟨Keeps.refl _ _, rfl⟩ | exact ⟨Keeps.alloc _ _, rfl⟩
          simp only [addEnt]
          apply loose_is
          · intro W vals hW hkn
            clear hkn
            refine ⟨?_⟩
            simp only [fill]
            go_simp
            first | exact ⟨Keeps.refl _ _, rfl⟩ | exact ⟨Keeps.alloc _ _, rfl⟩
          simp only [addEnt]
          apply loose_is
          · intro W vals hW hkn
            clear hkn
            refine ⟨?_⟩
            simp only [fill]
            go_simp
            first | exact ⟨Keeps.refl _ _, rfl⟩ | exact ⟨Keeps.alloc _ _, rfl⟩
          simp only [addEnt]
          apply loose_is
          · intro W vals hW hkn
            clear hkn
            refine ⟨?_⟩
            simp only [fill]
            go_simp
            first | exact ⟨Keeps.refl _ _, rfl⟩ | exact ⟨Keeps.alloc _ _, rfl⟩
          simp only [addEnt]
          apply loose_is
          · intro W vals hW hkn
            clear hkn
            refine ⟨?_⟩
            simp only [fill]
            go_simp
            first | exact ⟨Keeps.refl _ _, rfl⟩ | exact ⟨Keeps.alloc _ _, rfl⟩
          simp only [addEnt]
          apply loose_is
          · intro W vals hW hkn
            clear hkn
            refine ⟨?_⟩
            simp only [fill]
            go_simp
            first | exact ⟨Keeps.refl _ _, rfl⟩ | exact ⟨Keeps.alloc _ _, rfl⟩
          simp only [addEnt]
          apply loose_is
          · intro W vals hW hkn
            clear hkn
            refine ⟨?_⟩
            simp only [fill]
            go_simp
            first | exact ⟨Keeps.refl _ _, rfl⟩ | exact ⟨Keeps.alloc _ _, rfl⟩
          simp only [addEnt]
          refine loose_nil (fun W vals hW hkn => ?_)
          simp only [knowsAll] at hkn
          try simp only [and_true] at hkn
          simp only [fill, Act.put, List.setIfInBounds_toArray, List.set_cons_succ, List.set_cons_zero]
          have HW14 := Lib.hid (show Keeps w12 W [] from hW)
          clear hW hkn G1
          gi_wp2_with fail
          refine wpIn_region_tail rfl _ 10 (by kernel_rfl) rfl (by kernel_rfl) (by kernel_rfl) ?_
          simp only [List.take_succ_cons, List.take_zero, List.drop_succ_cons, List.drop_zero]
          apply loose_is
          · intro W vals hW hkn
            clear hkn
            refine ⟨?_⟩
            simp only [fill]
            go_simp
            first | exact ⟨Keeps.refl _ _, rfl⟩ | exact ⟨Keeps.alloc _ _, rfl⟩
          simp only [addEnt]
          apply loose_is
          · intro W vals hW hkn
            clear hkn
            refine ⟨?_⟩
            simp only [fill]
            go_simp
            first | exact ⟨Keeps.refl _ _, rfl⟩ | exact ⟨Keeps.alloc _ _, rfl⟩
          simp only [addEnt]
          apply loose_is
          · intro W vals hW hkn
            clear hkn
            refine ⟨?_⟩
            simp only [fill]
            go_simp
            first | exact ⟨Keeps.refl _ _, rfl⟩ | exact ⟨Keeps.alloc _ _, rfl⟩
          simp only [addEnt]
          apply loose_is
          · intro W vals hW hkn
            clear hkn
            refine ⟨?_⟩
            simp only [fill]
            go_simp
            first | exact ⟨Keeps.refl _ _, rfl⟩ | exact ⟨Keeps.alloc _ _, rfl⟩
          simp only [addEnt]
          apply loose_is
          · intro W vals hW hkn
            clear hkn
            refine ⟨?_⟩
            simp only [fill]
            go_simp
            first | exact ⟨Keeps.refl _ _, rfl⟩ | exact ⟨Keeps.alloc _ _, rfl⟩
          simp only [addEnt]
          apply loose_is
          · intro W vals hW hkn
            clear hkn
            refine ⟨?_⟩
            simp only [fill]
            go_simp
            first | exact ⟨Keeps.refl _ _, rfl⟩ | exact ⟨Keeps.alloc _ _, rfl⟩
          simp only [addEnt]
          apply loose_is
          · intro W vals hW hkn
            clear hkn
            refine ⟨?_⟩
            simp only [fill]
            go_simp
            first | exact ⟨Keeps.refl _ _, rfl⟩ | exact ⟨Keeps.alloc _ _, rfl⟩
          simp only [addEnt]
          apply loose_is
          · intro W vals hW hkn
            clear hkn
            refine ⟨?_⟩
            simp only [fill]
            go_simp
            first | exact ⟨Keeps.refl _ _, rfl⟩ | exact ⟨Keeps.alloc _ _, rfl⟩
          simp only [addEnt]
          apply loose_is
          · intro W vals hW hkn
            clear hkn
            refine ⟨?_⟩
            simp only [fill]
            go_simp
            first | exact ⟨Keeps.refl _ _, rfl⟩ | exact ⟨Keeps.alloc _ _, rfl⟩
          simp only [addEnt]
          apply loose_is
          · intro W vals hW hkn
            clear hkn
            refine ⟨?_⟩
            simp only [fill]
            go_simp
            first | exact ⟨Keeps.refl _ _, rfl⟩ | exact ⟨Keeps.alloc _ _, rfl⟩
          simp only [addEnt]
          refine loose_nil (fun W vals hW hkn => ?_)
          simp only [knowsAll] at hkn
          try simp only [and_true] at hkn
          simp only [fill, Act.put, List.setIfInBounds_toArray, List.set_cons_succ, List.set_cons_zero]
          have HW15 := Lib.hid (show Keeps w12 W [] from HW14.out.trans hW (by simp))
          clear hW hkn
          refine ⟨?_⟩
          refine wpListIn_copyRow rfl _ _ 32 32 rfl (by kernel_rfl) (by kernel_rfl) gx (64 * 0) 64 (256 - 64 * 0) gv (q * 256 + 64 * 0) 64 (256 - 64 * 0) 72 X (((b.drop (64 * 0)).take 64).map byteV) (H13.out.1.keeps HW15.out) (by go_simp) (by go_simp) (by rw [HCS.out.1 0 (by omega)]; rfl) (HCS.out.2.2 0 (by omega) W HW15.out) (by rw [HCS.out.1 0 (by omega), HX.out.1]; omega) (HCS.out.2.1 0) ?_
          intro w15 hr15 hk15
          rw [← HX.out.2.2.2, graft_leaf HB8.out (by omega)] at hr15
          have H15 := Lib.hid (And.intro hr15 hk15)
          clear hr15 hk15
          simp only [Act.put, List.setIfInBounds_toArray, List.set_cons_succ, List.set_cons_zero]
          have kw15 : Keeps WB w15 [gx] := (((HRX.out.2.2.weaken (T := [gx]) (by simp)).trans H13.out.2 (fun _ h _ => h)).trans HW15.out (by simp)).trans H15.out.2 (fun _ h _ => h)
          have hbig := HRX.out.2.1
          have hc15 := H12.out.1.keep kw15 (by have := H12.out.1.lt; simp; omega)
          have hb15 := H12.out.2.1.keep kw15 (by have := H12.out.2.1.lt; simp; omega)
          have hg15 := H12.out.2.2.1.keep kw15 (by have := H12.out.2.2.1.lt; simp; omega)
          have hm15 := H12.out.2.2.2.1.keep kw15 (by have := H12.out.2.2.2.1.lt; simp; omega)
          have B6 := fun (W' : World) (hW : Keeps w15 W' []) => (hb15.keeps hW).cell 0
          have C4 := fun (W' : World) (hW : Keeps w15 W' []) => (hc15.keeps hW).cell 4
          have G0 := fun (W' : World) (hW : Keeps w15 W' []) => (hg15.keeps hW).cell 0
          simp only [dkRow, List.getElem?_toArray, List.getElem?_cons_zero, List.getElem?_cons_succ] at B6 C4 G0
          have H16 := Lib.hid (And.intro kw15 hm15)
          obtain ⟨X2, hX2⟩ : ∃ X2, leafC (graft pg b 0) = X2 := ⟨_, rfl⟩
          have HX2 := Lib.hid (And.intro hX2 (show X2.size = 256 by rw [← hX2, leafC_size, graft_length H12.out.2.2.2.2.2 HB8.out (by omega)]))
          have HR2 := Lib.hid (show Row w15 gx 72 X2 by rw [← hX2]; exact H15.out.1)
          clear kw15 hbig hc15 hb15 hg15 hm15 hX2
          gi_wp2_with fail
          refine wpIn_region_tail rfl _ 7 (by kernel_rfl) rfl (by kernel_rfl) (by kernel_rfl) ?_
          simp only [List.take_succ_cons, List.take_zero, List.drop_succ_cons, List.drop_zero]
          apply loose_is
          · intro W vals hW hkn
            clear hkn
            refine ⟨?_⟩
            simp only [fill]
            go_simp
            first | exact ⟨Keeps.refl _ _, rfl⟩ | exact ⟨Keeps.alloc _ _, rfl⟩
          simp only [addEnt]
          apply loose_is
          · intro W vals hW hkn
            clear hkn
            refine ⟨?_⟩
            simp only [fill]
            go_simp
            first | exact ⟨Keeps.refl _ _, rfl⟩ | exact ⟨Keeps.alloc _ _, rfl⟩
          simp only [addEnt]
          apply loose_is
          · intro W vals hW hkn
            clear hkn
            refine ⟨?_⟩
            simp only [fill]
            go_simp
            first | exact ⟨Keeps.refl _ _, rfl⟩ | exact ⟨Keeps.alloc _ _, rfl⟩
          simp only [addEnt]
          apply loose_is
          · intro W vals hW hkn
            clear hkn
            refine ⟨?_⟩
            simp only [fill]
            go_simp
            first | exact ⟨Keeps.refl _ _, rfl⟩ | exact ⟨Keeps.alloc _ _, rfl⟩
          simp only [addEnt]
          apply loose_is
          · intro W vals hW hkn
            clear hkn
            refine ⟨?_⟩
            simp only [fill]
            go_simp
            first | exact ⟨Keeps.refl _ _, rfl⟩ | exact ⟨Keeps.alloc _ _, rfl⟩
          simp only [addEnt]
          apply loose_is
          · intro W vals hW hkn
            clear hkn
            refine ⟨?_⟩
            simp only [fill]
            go_simp
            first | exact ⟨Keeps.refl _ _, rfl⟩ | exact ⟨Keeps.alloc _ _, rfl⟩
          simp only [addEnt]
          apply loose_is
          · intro W vals hW hkn
            clear hkn
            exact opOk_loadLeaf rfl _ rfl gx 0 X2 HX2.out.2 (by simp only [fill]; go_simp) (Row.range (HR2.out.keeps hW)) (Keeps.refl _ _)
          simp only [addEnt]
          refine loose_nil (fun W vals hW hkn => ?_)
          simp only [knowsAll] at hkn
          try simp only [and_true] at hkn
          simp only [fill, Act.put, List.setIfInBounds_toArray, List.set_cons_succ, List.set_cons_zero]
          have HW16 := Lib.hid (show Keeps w15 W [] from hW)
          clear hW hkn B6 C4 G0
          obtain ⟨w20, hrun20, hp20, hk20, hmt20⟩ := (H16.out.2.keep HW16.out (by simp)).store undIntD undDisk (pageF_dom H.out.ok.p4 HI.out.2.2.2.1) pageDom_lt (x := xp) (by have := HI.out.2.2.2.2.2.2.2.2.2.2.2.1; omega) (by have := HI.out.2.2.2.2.2.2.2.2.2.2.2.1; omega) (.agg X2)
          have HK20 := Lib.hid (And.intro hp20 hk20)
          clear hp20 hk20 hmt20
          refine ⟨?_⟩
          gi_wp2_with fail
          have kB2 : Keeps WB w20 [gx, b5] := ((H16.out.1.weaken (T := [gx, b5]) (by simp)).trans HW16.out (by simp)).trans HK20.out.2 (fun x hx _ => by simp at hx ⊢; omega)
          have hbig := HRX.out.2.1
          have hBA := HB.out.1.size
          have hAS := HI.out.1.k.size
          have hss := HS.out
          have hys := HY.out.2.2.2
          have kA : Keeps WA w20 [w.heap.size, b5] := (HB.out.1.weaken (T := [w.heap.size, b5]) (by simp)).trans kB2 (fun x hx hlt => by simp at hx ⊢; omega)
          refine ⟨KeepsFrom.of_keepsS kA _ (by simp; omega), KpS.of kA HI.out.1.k.size, ⟨fun y => if y = xp then some (graft pg b 0) else M y, ps, A8, cap9 - 1, ?_, ?_, ?_, HB.out.2.1.keep kB2 (by simp; omega), HB.out.2.2.1.keep kB2 (by omega) (fun x hx => by simp at hx; omega), HB.out.2.2.2⟩, HI.out.1.k.trans kA (fun _ h _ => h)⟩
          · rw [List.map_append, List.map_singleton, secRun_snoc, HI.out.2.1]
            exact secStep_pick HQ.out.1 HNX.out.1 HKW.out.2.2 H12.out.2.2.2.2.1
          · have h9 := HK20.out.1
            rw [← HX2.out.1, ← leafV, pageF_upd] at h9
            exact h9
          · exact pagesOk_upd HI.out.2.2.2.1 H.out.ok.w HI.out.2.2.2.2.2.2.2.2.2.2.2.1.2.2 (graft_length H12.out.2.2.2.2.2 HB8.out (by omega))
        · skip
          gi_wp2_with fail
          refine wpIn_region_keeps rfl _ (by kernel_rfl) rfl (by kernel_rfl) (by kernel_rfl) ?_
          apply loose_is
          · intro W vals hW hkn
            clear hkn
            refine ⟨?_⟩
            simp only [fill]
            go_simp
            first | exact ⟨Keeps.refl _ _, rfl⟩ | exact ⟨Keeps.alloc _ _, rfl⟩
          simp only [addEnt]
          apply loose_is
          · intro W vals hW hkn
            clear hkn
            refine ⟨?_⟩
            simp only [fill]
            go_simp
            first | exact ⟨Keeps.refl _ _, rfl⟩ | exact ⟨Keeps.alloc _ _, rfl⟩
          simp only [addEnt]
          apply loose_is
          · intro W vals hW hkn
            clear hkn
            refine ⟨?_⟩
            simp only [fill]
            go_simp
            first | exact ⟨Keeps.refl _ _, rfl⟩ | exact ⟨Keeps.alloc _ _, rfl⟩
          simp only [addEnt]
          apply loose_is
          · intro W vals hW hkn
            clear hkn
            refine ⟨?_⟩
            simp only [fill]
            go_simp
            first | exact ⟨Keeps.refl _ _, rfl⟩ | exact ⟨Keeps.alloc _ _, rfl⟩
          simp only [addEnt]
          apply loose_is
          · intro W vals hW hkn
            clear hkn
            refine ⟨?_⟩
            simp only [fill]
            go_simp
            first | exact ⟨Keeps.refl _ _, rfl⟩ | exact ⟨Keeps.alloc _ _, rfl⟩
          simp only [addEnt]
          apply loose_is
          · intro W vals hW hkn
            clear hkn
            refine ⟨?_⟩
            simp only [fill]
            go_simp
            first | exact ⟨Keeps.refl _ _, rfl⟩ | exact ⟨Keeps.alloc _ _, rfl⟩
          simp only [addEnt]
          apply loose_is
          · intro W vals hW hkn
            clear hkn
            refine ⟨?_⟩
            simp only [fill]
            go_simp
            first | exact ⟨Keeps.refl _ _, rfl⟩ | exact ⟨Keeps.alloc _ _, rfl⟩
          simp only [addEnt]
          apply loose_is
          · intro W vals hW hkn
            clear hkn
            refine ⟨?_⟩
            simp only [fill]
            go_simp
            first | exact ⟨Keeps.refl _ _, rfl⟩ | exact ⟨Keeps.alloc _ _, rfl⟩
          simp only [addEnt]
          apply loose_is
          · intro W vals hW hkn
            clear hkn
            refine ⟨?_⟩
            simp only [fill]
            go_simp
            first | exact ⟨Keeps.refl _ _, rfl⟩ | exact ⟨Keeps.alloc _ _, rfl⟩
          simp only [addEnt]
          refine loose_nil (fun W vals hW hkn => ?_)
          simp only [knowsAll] at hkn
          try simp only [and_true] at hkn
          simp only [fill, Act.put, List.setIfInBounds_toArray, List.set_cons_succ, List.set_cons_zero]
          have HW14 := Lib.hid (show Keeps w12 W [] from hW)
          clear hW hkn G1
          gi_wp2_with fail
          refine wpIn_region_tail rfl _ 10 (by kernel_rfl) rfl (by kernel_rfl) (by kernel_rfl) ?_
          simp only [List.take_succ_cons, List.take_zero, List.drop_succ_cons, List.drop_zero]
          apply loose_is
          · intro W vals hW hkn
            clear hkn
            refine ⟨?_⟩
            simp only [fill]
            go_simp
            first | exact ⟨Keeps.refl _ _, rfl⟩ | exact ⟨Keeps.alloc _ _, rfl⟩
          simp only [addEnt]
          apply loose_is
          · intro W vals hW hkn
            clear hkn
            refine ⟨?_⟩
            simp only [fill]
            go_simp
            first | exact ⟨Keeps.refl _ _, rfl⟩ | exact ⟨Keeps.alloc _ _, rfl⟩
          simp only [addEnt]
          apply loose_is
          · intro W vals hW hkn
            clear hkn
            refine ⟨?_⟩
            simp only [fill]
            go_simp
            first | exact ⟨Keeps.refl _ _, rfl⟩ | exact ⟨Keeps.alloc _ _, rfl⟩
          simp only [addEnt]
          apply loose_is
          · intro W vals hW hkn
            clear hkn
            refine ⟨?_⟩
            simp only [fill]
            go_simp
            first | exact ⟨Keeps.refl _ _, rfl⟩ | exact ⟨Keeps.alloc _ _, rfl⟩
          simp only [addEnt]
          apply loose_is
          · intro W vals hW hkn
            clear hkn
            refine ⟨?_⟩
            simp only [fill]
            go_simp
            first | exact ⟨Keeps.refl _ _, rfl⟩ | exact ⟨Keeps.alloc _ _, rfl⟩
          simp only [addEnt]
          apply loose_is
          · intro W vals hW hkn
            clear hkn
            refine ⟨?_⟩
            simp only [fill]
            go_simp
            first | exact ⟨Keeps.refl _ _, rfl⟩ | exact ⟨Keeps.alloc _ _, rfl⟩
          simp only [addEnt]
          apply loose_is
          · intro W vals hW hkn
            clear hkn
            refine ⟨?_⟩
            simp only [fill]
            go_simp
            first | exact ⟨Keeps.refl _ _, rfl⟩ | exact ⟨Keeps.alloc _ _, rfl⟩
          simp only [addEnt]
          apply loose_is
          · intro W vals hW hkn
            clear hkn
            refine ⟨?_⟩
            simp only [fill]
            go_simp
            first | exact ⟨Keeps.refl _ _, rfl⟩ | exact ⟨Keeps.alloc _ _, rfl⟩
          simp only [addEnt]
          apply loose_is
          · intro W vals hW hkn
            clear hkn
            refine ⟨?_⟩
            simp only [fill]
            go_simp
            first | exact ⟨Keeps.refl _ _, rfl⟩ | exact ⟨Keeps.alloc _ _, rfl⟩
          simp only [addEnt]
          apply loose_is
          · intro W vals hW hkn
            clear hkn
            refine ⟨?_⟩
            simp only [fill]
            go_simp
            first | exact ⟨Keeps.refl _ _, rfl⟩ | exact ⟨Keeps.alloc _ _, rfl⟩
          simp only [addEnt]
          refine loose_nil (fun W vals hW hkn => ?_)
          simp only [knowsAll] at hkn
          try simp only [and_true] at hkn
          simp only [fill, Act.put, List.setIfInBounds_toArray, List.set_cons_succ, List.set_cons_zero]
          have HW15 := Lib.hid (show Keeps w12 W [] from HW14.out.trans hW (by simp))
          clear hW hkn
          refine ⟨?_⟩
          refine wpListIn_copyRow rfl _ _ 32 32 rfl (by kernel_rfl) (by kernel_rfl) gx (64 * 1) 64 (256 - 64 * 1) gv (q * 256 + 64 * 1) 64 (256 - 64 * 1) 72 X (((b.drop (64 * 1)).take 64).map byteV) (H13.out.1.keeps HW15.out) (by go_simp) (by go_simp) (by rw [HCS.out.1 1 (by omega)]; rfl) (HCS.out.2.2 1 (by omega) W HW15.out) (by rw [HCS.out.1 1 (by omega), HX.out.1]; omega) (HCS.out.2.1 1) ?_
          intro w15 hr15 hk15
          rw [← HX.out.2.2.2, graft_leaf HB8.out (by omega)] at hr15
          have H15 := Lib.hid (And.intro hr15 hk15)
          clear hr15 hk15
          simp only [Act.put, List.setIfInBounds_toArray, List.set_cons_succ, List.set_cons_zero]
          have kw15 : Keeps WB w15 [gx] := (((HRX.out.2.2.weaken (T := [gx]) (by simp)).trans H13.out.2 (fun _ h _ => h)).trans HW15.out (by simp)).trans H15.out.2 (fun _ h _ => h)
          have hbig := HRX.out.2.1
          have hc15 := H12.out.1.keep kw15 (by have := H12.out.1.lt; simp; omega)
          have hb15 := H12.out.2.1.keep kw15 (by have := H12.out.2.1.lt; simp; omega)
          have hg15 := H12.out.2.2.1.keep kw15 (by have := H12.out.2.2.1.lt; simp; omega)
          have hm15 := H12.out.2.2.2.1.keep kw15 (by have := H12.out.2.2.2.1.lt; simp; omega)
          have B6 := fun (W' : World) (hW : Keeps w15 W' []) => (hb15.keeps hW).cell 0
          have C4 := fun (W' : World) (hW : Keeps w15 W' []) => (hc15.keeps hW).cell 4
          have G0 := fun (W' : World) (hW : Keeps w15 W' []) => (hg15.keeps hW).cell 0
          simp only [dkRow, List.getElem?_toArray, List.getElem?_cons_zero, List.getElem?_cons_succ] at B6 C4 G0
          have H16 := Lib.hid (And.intro kw15 hm15)
          obtain ⟨X2, hX2⟩ : ∃ X2, leafC (graft pg b 1) = X2 := ⟨_, rfl⟩
          have HX2 := Lib.hid (And.intro hX2 (show X2.size = 256 by rw [← hX2, leafC_size, graft_length H12.out.2.2.2.2.2 HB8.out (by omega)]))
          have HR2 := Lib.hid (show Row w15 gx 72 X2 by rw [← hX2]; exact H15.out.1)
          clear kw15 hbig hc15 hb15 hg15 hm15 hX2
          gi_wp2_with fail
          refine wpIn_region_tail rfl _ 7 (by kernel_rfl) rfl (by kernel_rfl) (by kernel_rfl) ?_
          simp only [List.take_succ_cons, List.take_zero, List.drop_succ_cons, List.drop_zero]
          apply loose_is
          · intro W vals hW hkn
            clear hkn
            refine ⟨?_⟩
            simp only [fill]
            go_simp
            first | exact ⟨Keeps.refl _ _, rfl⟩ | exact ⟨Keeps.alloc _ _, rfl⟩
          simp only [addEnt]
          apply loose_is
          · intro W vals hW hkn
            clear hkn
            refine ⟨?_⟩
            simp only [fill]
            go_simp
            first | exact ⟨Keeps.refl _ _, rfl⟩ | exact ⟨Keeps.alloc _ _, rfl⟩
          simp only [addEnt]
          apply loose_is
          · intro W vals hW hkn
            clear hkn
            refine ⟨?_⟩
            simp only [fill]
            go_simp
            first | exact ⟨Keeps.refl _ _, rfl⟩ | exact ⟨Keeps.alloc _ _, rfl⟩
          simp only [addEnt]
          apply loose_is
          · intro W vals hW hkn
            clear hkn
            refine ⟨?_⟩
            simp only [fill]
            go_simp
            first | exact ⟨Keeps.refl _ _, rfl⟩ | exact ⟨Keeps.alloc _ _, rfl⟩
          simp only [addEnt]
          apply loose_is
          · intro W vals hW hkn
            clear hkn
            refine ⟨?_⟩
            simp only [fill]
            go_simp
            first | exact ⟨Keeps.refl _ _, rfl⟩ | exact ⟨Keeps.alloc _ _, rfl⟩
          simp only [addEnt]
          apply loose_is
          · intro W vals hW hkn
            clear hkn
            refine ⟨?_⟩
            simp only [fill]
            go_simp
            first | exact ⟨Keeps.refl _ _, rfl⟩ | exact ⟨Keeps.alloc _ _, rfl⟩
          simp only [addEnt]
          apply loose_is
          · intro W vals hW hkn
            clear hkn
            exact opOk_loadLeaf rfl _ rfl gx 0 X2 HX2.out.2 (by simp only [fill]; go_simp) (Row.range (HR2.out.keeps hW)) (Keeps.refl _ _)
          simp only [addEnt]
          refine loose_nil (fun W vals hW hkn => ?_)
          simp only [knowsAll] at hkn
          try simp only [and_true] at hkn
          simp only [fill, Act.put, List.setIfInBounds_toArray, List.set_cons_succ, List.set_cons_zero]
          have HW16 := Lib.hid (show Keeps w15 W [] from hW)
          clear hW hkn B6 C4 G0
          obtain ⟨w20, hrun20, hp20, hk20, hmt20⟩ := (H16.out.2.keep HW16.out (by simp)).store undIntD undDisk (pageF_dom H.out.ok.p4 HI.out.2.2.2.1) pageDom_lt (x := xp) (by have := HI.out.2.2.2.2.2.2.2.2.2.2.2.1; omega) (by have := HI.out.2.2.2.2.2.2.2.2.2.2.2.1; omega) (.agg X2)
          have HK20 := Lib.hid (And.intro hp20 hk20)
          clear hp20 hk20 hmt20
          refine ⟨?_⟩
          gi_wp2_with fail
          have kB2 : Keeps WB w20 [gx, b5] := ((H16.out.1.weaken (T := [gx, b5]) (by simp)).trans HW16.out (by simp)).trans HK20.out.2 (fun x hx _ => by simp at hx ⊢; omega)
          have hbig := HRX.out.2.1
          have hBA := HB.out.1.size
          have hAS := HI.out.1.k.size
          have hss := HS.out
          have hys := HY.out.2.2.2
          have kA : Keeps WA w20 [w.heap.size, b5] := (HB.out.1.weaken (T := [w.heap.size, b5]) (by simp)).trans kB2 (fun x hx hlt => by simp at hx ⊢; omega)
          refine ⟨KeepsFrom.of_keepsS kA _ (by simp; omega), KpS.of kA HI.out.1.k.size, ⟨fun y => if y = xp then some (graft pg b 1) else M y, ps, A8, cap9 - 1, ?_, ?_, ?_, HB.out.2.1.keep kB2 (by simp; omega), HB.out.2.2.1.keep kB2 (by omega) (fun x hx => by simp at hx; omega), HB.out.2.2.2⟩, HI.out.1.k.trans kA (fun _ h _ => h)⟩
          · rw [List.map_append, List.map_singleton, secRun_snoc, HI.out.2.1]
            exact secStep_pick HQ.out.1 HNX.out.1 HKW.out.2.2 H12.out.2.2.2.2.1
          · have h9 := HK20.out.1
            rw [← HX2.out.1, ← leafV, pageF_upd] at h9
            exact h9
          · exact pagesOk_upd HI.out.2.2.2.1 H.out.ok.w HI.out.2.2.2.2.2.2.2.2.2.2.2.1.2.2 (graft_length H12.out.2.2.2.2.2 HB8.out (by omega))
        · skip
          gi_wp2_with fail
          refine wpIn_region_keeps rfl _ (by kernel_rfl) rfl (by kernel_rfl) (by kernel_rfl) ?_
          apply loose_is
          · intro W vals hW hkn
            clear hkn
            refine ⟨?_⟩
            simp only [fill]
            go_simp
            first | exact ⟨Keeps.refl _ _, rfl⟩ | exact ⟨Keeps.alloc _ _, rfl⟩
          simp only [addEnt]
          apply loose_is
          · intro W vals hW hkn
            clear hkn
            refine ⟨?_⟩
            simp only [fill]
            go_simp
            first | exact ⟨Keeps.refl _ _, rfl⟩ | exact ⟨Keeps.alloc _ _, rfl⟩
          simp only [addEnt]
          apply loose_is
          · intro W vals hW hkn
            clear hkn
            refine ⟨?_⟩
            simp only [fill]
            go_simp
            first | exact ⟨Keeps.refl _ _, rfl⟩ | exact ⟨Keeps.alloc _ _, rfl⟩
          simp only [addEnt]
          apply loose_is
          · intro W vals hW hkn
            clear hkn
            refine ⟨?_⟩
            simp only [fill]
            go_simp
            first | exact ⟨Keeps.refl _ _, rfl⟩ | exact ⟨Keeps.alloc _ _, rfl⟩
          simp only [addEnt]
          apply loose_is
          · intro W vals hW hkn
            clear hkn
            refine ⟨?_⟩
            simp only [fill]
            go_simp
            first | exact ⟨Keeps.refl _ _, rfl⟩ | exact ⟨Keeps.alloc _ _, rfl⟩
          simp only [addEnt]
          apply loose_is
          · intro W vals hW hkn
            clear hkn
            refine ⟨?_⟩
            simp only [fill]
            go_simp
            first | exact ⟨Keeps.refl _ _, rfl⟩ | exact ⟨Keeps.alloc _ _, rfl⟩
          simp only [addEnt]
          apply loose_is
          · intro W vals hW hkn
            clear hkn
            refine ⟨?_⟩
            simp only [fill]
            go_simp
            first | exact ⟨Keeps.refl _ _, rfl⟩ | exact ⟨Keeps.alloc _ _, rfl⟩
          simp only [addEnt]
          apply loose_is
          · intro W vals hW hkn
            clear hkn
            refine ⟨?_⟩
            simp only [fill]
            go_simp
            first | exact ⟨Keeps.refl _ _, rfl⟩ | exact ⟨Keeps.alloc _ _, rfl⟩
          simp only [addEnt]
          apply loose_is
          · intro W vals hW hkn
            clear hkn
            refine ⟨?_⟩
            simp only [fill]
            go_simp
            first | exact ⟨Keeps.refl _ _, rfl⟩ | exact ⟨Keeps.alloc _ _, rfl⟩
          simp only [addEnt]
          refine loose_nil (fun W vals hW hkn => ?_)
          simp only [knowsAll] at hkn
          try simp only [and_true] at hkn
          simp only [fill, Act.put, List.setIfInBounds_toArray, List.set_cons_succ, List.set_cons_zero]
          have HW14 := Lib.hid (show Keeps w12 W [] from hW)
          clear hW hkn G1
          gi_wp2_with fail
          refine wpIn_region_tail rfl _ 10 (by kernel_rfl) rfl (by kernel_rfl) (by kernel_rfl) ?_
          simp only [List.take_succ_cons, List.take_zero, List.drop_succ_cons, List.drop_zero]
          apply loose_is
          · intro W vals hW hkn
            clear hkn
            refine ⟨?_⟩
            simp only [fill]
            go_simp
            first | exact ⟨Keeps.refl _ _, rfl⟩ | exact ⟨Keeps.alloc _ _, rfl⟩
          simp only [addEnt]
          apply loose_is
          · intro W vals hW hkn
            clear hkn
            refine ⟨?_⟩
            simp only [fill]
            go_simp
            first | exact ⟨Keeps.refl _ _, rfl⟩ | exact ⟨Keeps.alloc _ _, rfl⟩
          simp only [addEnt]
          apply loose_is
          · intro W vals hW hkn
            clear hkn
            refine ⟨?_⟩
            simp only [fill]
            go_simp
            first | exact ⟨Keeps.refl _ _, rfl⟩ | exact ⟨Keeps.alloc _ _, rfl⟩
          simp only [addEnt]
          apply loose_is
          · intro W vals hW hkn
            clear hkn
            refine ⟨?_⟩
            simp only [fill]
            go_simp
            first | exact ⟨Keeps.refl _ _, rfl⟩ | exact ⟨Keeps.alloc _ _, rfl⟩
          simp only [addEnt]
          apply loose_is
          · intro W vals hW hkn
            clear hkn
            refine ⟨?_⟩
            simp only [fill]
            go_simp
            first | exact ⟨Keeps.refl _ _, rfl⟩ | exact ⟨Keeps.alloc _ _, rfl⟩
          simp only [addEnt]
          apply loose_is
          · intro W vals hW hkn
            clear hkn
            refine ⟨?_⟩
            simp only [fill]
            go_simp
            first | exact ⟨Keeps.refl _ _, rfl⟩ | exact ⟨Keeps.alloc _ _, rfl⟩
          simp only [addEnt]
          apply loose_is
          · intro W vals hW hkn
            clear hkn
            refine ⟨?_⟩
            simp only [fill]
            go_simp
            first | exact ⟨Keeps.refl _ _, rfl⟩ | exact ⟨Keeps.alloc _ _, rfl⟩
          simp only [addEnt]
          apply loose_is
          · intro W vals hW hkn
            clear hkn
            refine ⟨?_⟩
            simp only [fill]
            go_simp
            first | exact ⟨Keeps.refl _ _, rfl⟩ | exact ⟨Keeps.alloc _ _, rfl⟩
          simp only [addEnt]
          apply loose_is
          · intro W vals hW hkn
            clear hkn
            refine ⟨?_⟩
            simp only [fill]
            go_simp
            first | exact ⟨Keeps.refl _ _, rfl⟩ | exact ⟨Keeps.alloc _ _, rfl⟩
          simp only [addEnt]
          apply loose_is
          · intro W vals hW hkn
            clear hkn
            refine ⟨?_⟩
            simp only [fill]
            go_simp
            first | exact ⟨Keeps.refl _ _, rfl⟩ | exact ⟨Keeps.alloc _ _, rfl⟩
          simp only [addEnt]
          refine loose_nil (fun W vals hW hkn => ?_)
          simp only [knowsAll] at hkn
          try simp only [and_true] at hkn
          simp only [fill, Act.put, List.setIfInBounds_toArray, List.set_cons_succ, List.set_cons_zero]
          have HW15 := Lib.hid (show Keeps w12 W [] from HW14.out.trans hW (by simp))
          clear hW hkn
          refine ⟨?_⟩
          refine wpListIn_copyRow rfl _ _ 32 32 rfl (by kernel_rfl) (by kernel_rfl) gx (64 * 2) 64 (256 - 64 * 2) gv (q * 256 + 64 * 2) 64 (256 - 64 * 2) 72 X (((b.drop (64 * 2)).take 64).map byteV) (H13.out.1.keeps HW15.out) (by go_simp) (by go_simp) (by rw [HCS.out.1 2 (by omega)]; rfl) (HCS.out.2.2 2 (by omega) W HW15.out) (by rw [HCS.out.1 2 (by omega), HX.out.1]; omega) (HCS.out.2.1 2) ?_
          intro w15 hr15 hk15
          rw [← HX.out.2.2.2, graft_leaf HB8.out (by omega)] at hr15
          have H15 := Lib.hid (And.intro hr15 hk15)
          clear hr15 hk15
          simp only [Act.put, List.setIfInBounds_toArray, List.set_cons_succ, List.set_cons_zero]
          have kw15 : Keeps WB w15 [gx] := (((HRX.out.2.2.weaken (T := [gx]) (by simp)).trans H13.out.2 (fun _ h _ => h)).trans HW15.out (by simp)).trans H15.out.2 (fun _ h _ => h)
          have hbig := HRX.out.2.1
          have hc15 := H12.out.1.keep kw15 (by have := H12.out.1.lt; simp; omega)
          have hb15 := H12.out.2.1.keep kw15 (by have := H12.out.2.1.lt; simp; omega)
          have hg15 := H12.out.2.2.1.keep kw15 (by have := H12.out.2.2.1.lt; simp; omega)
          have hm15 := H12.out.2.2.2.1.keep kw15 (by have := H12.out.2.2.2.1.lt; simp; omega)
          have B6 := fun (W' : World) (hW : Keeps w15 W' []) => (hb15.keeps hW).cell 0
          have C4 := fun (W' : World) (hW : Keeps w15 W' []) => (hc15.keeps hW).cell 4
          have G0 := fun (W' : World) (hW : Keeps w15 W' []) => (hg15.keeps hW).cell 0
          simp only [dkRow, List.getElem?_toArray, List.getElem?_cons_zero, List.getElem?_cons_succ] at B6 C4 G0
          have H16 := Lib.hid (And.intro kw15 hm15)
          obtain ⟨X2, hX2⟩ : ∃ X2, leafC (graft pg b 2) = X2 := ⟨_, rfl⟩
          have HX2 := Lib.hid (And.intro hX2 (show X2.size = 256 by rw [← hX2, leafC_size, graft_length H12.out.2.2.2.2.2 HB8.out (by omega)]))
          have HR2 := Lib.hid (show Row w15 gx 72 X2 by rw [← hX2]; exact H15.out.1)
          clear kw15 hbig hc15 hb15 hg15 hm15 hX2
          gi_wp2_with fail
          refine wpIn_region_tail rfl _ 7 (by kernel_rfl) rfl (by kernel_rfl) (by kernel_rfl) ?_
          simp only [List.take_succ_cons, List.take_zero, List.drop_succ_cons, List.drop_zero]
          apply loose_is
          · intro W vals hW hkn
            clear hkn
            refine ⟨?_⟩
            simp only [fill]
            go_simp
            first | exact ⟨Keeps.refl _ _, rfl⟩ | exact ⟨Keeps.alloc _ _, rfl⟩
          simp only [addEnt]
          apply loose_is
          · intro W vals hW hkn
            clear hkn
            refine ⟨?_⟩
            simp only [fill]
            go_simp
            first | exact ⟨Keeps.refl _ _, rfl⟩ | exact ⟨Keeps.alloc _ _, rfl⟩
          simp only [addEnt]
          apply loose_is
          · intro W vals hW hkn
            clear hkn
            refine ⟨?_⟩
            simp only [fill]
            go_simp
            first | exact ⟨Keeps.refl _ _, rfl⟩ | exact ⟨Keeps.alloc _ _, rfl⟩
          simp only [addEnt]
          apply loose_is
          · intro W vals hW hkn
            clear hkn
            refine ⟨?_⟩
            simp only [fill]
            go_simp
            first | exact ⟨Keeps.refl _ _, rfl⟩ | exact ⟨Keeps.alloc _ _, rfl⟩
          simp only [addEnt]
          apply loose_is
          · intro W vals hW hkn
            clear hkn
            refine ⟨?_⟩
            simp only [fill]
            go_simp
            first | exact ⟨Keeps.refl _ _, rfl⟩ | exact ⟨Keeps.alloc _ _, rfl⟩
          simp only [addEnt]
          apply loose_is
          · intro W vals hW hkn
            clear hkn
            refine ⟨?_⟩
            simp only [fill]
            go_simp
            first | exact ⟨Keeps.refl _ _, rfl⟩ | exact ⟨Keeps.alloc _ _, rfl⟩
          simp only [addEnt]
          apply loose_is
          · intro W vals hW hkn
            clear hkn
            exact opOk_loadLeaf rfl _ rfl gx 0 X2 HX2.out.2 (by simp only [fill]; go_simp) (Row.range (HR2.out.keeps hW)) (Keeps.refl _ _)
          simp only [addEnt]
          refine loose_nil (fun W vals hW hkn => ?_)
          simp only [knowsAll] at hkn
          try simp only [and_true] at hkn
          simp only [fill, Act.put, List.setIfInBounds_toArray, List.set_cons_succ, List.set_cons_zero]
          have HW16 := Lib.hid (show Keeps w15 W [] from hW)
          clear hW hkn B6 C4 G0
          obtain ⟨w20, hrun20, hp20, hk20, hmt20⟩ := (H16.out.2.keep HW16.out (by simp)).store undIntD undDisk (pageF_dom H.out.ok.p4 HI.out.2.2.2.1) pageDom_lt (x := xp) (by have := HI.out.2.2.2.2.2.2.2.2.2.2.2.1; omega) (by have := HI.out.2.2.2.2.2.2.2.2.2.2.2.1; omega) (.agg X2)
          have HK20 := Lib.hid (And.intro hp20 hk20)
          clear hp20 hk20 hmt20
          refine ⟨?_⟩
          gi_wp2_with fail
          have kB2 : Keeps WB w20 [gx, b5] := ((H16.out.1.weaken (T := [gx, b5]) (by simp)).trans HW16.out (by simp)).trans HK20.out.2 (fun x hx _ => by simp at hx ⊢; omega)
          have hbig := HRX.out.2.1
          have hBA := HB.out.1.size
          have hAS := HI.out.1.k.size
          have hss := HS.out
          have hys := HY.out.2.2.2
          have kA : Keeps WA w20 [w.heap.size, b5] := (HB.out.1.weaken (T := [w.heap.size, b5]) (by simp)).trans kB2 (fun x hx hlt => by simp at hx ⊢; omega)
          refine ⟨KeepsFrom.of_keepsS kA _ (by simp; omega), KpS.of kA HI.out.1.k.size, ⟨fun y => if y = xp then some (graft pg b 2) else M y, ps, A8, cap9 - 1, ?_, ?_, ?_, HB.out.2.1.keep kB2 (by simp; omega), HB.out.2.2.1.keep kB2 (by omega) (fun x hx => by simp at hx; omega), HB.out.2.2.2⟩, HI.out.1.k.trans kA (fun _ h _ => h)⟩
          · rw [List.map_append, List.map_singleton, secRun_snoc, HI.out.2.1]
            exact secStep_pick HQ.out.1 HNX.out.1 HKW.out.2.2 H12.out.2.2.2.2.1
          · have h9 := HK20.out.1
            rw [← HX2.out.1, ← leafV, pageF_upd] at h9
            exact h9
          · exact pagesOk_upd HI.out.2.2.2.1 H.out.ok.w HI.out.2.2.2.2.2.2.2.2.2.2.2.1.2.2 (graft_length H12.out.2.2.2.2.2 HB8.out (by omega))
        · skip
          gi_wp2_with fail
          refine wpIn_region_keeps rfl _ (by kernel_rfl) rfl (by kernel_rfl) (by kernel_rfl) ?_
          apply loose_is
          · intro W vals hW hkn
            clear hkn
            refine ⟨?_⟩
            simp only [fill]
            go_simp
            first | exact ⟨Keeps.refl _ _, rfl⟩ | exact ⟨Keeps.alloc _ _, rfl⟩
          simp only [addEnt]
          apply loose_is
          · intro W vals hW hkn
            clear hkn
            refine ⟨?_⟩
            simp only [fill]
            go_simp
            first | exact ⟨Keeps.refl _ _, rfl⟩ | exact ⟨Keeps.alloc _ _, rfl⟩
          simp only [addEnt]
          apply loose_is
          · intro W vals hW hkn
            clear hkn
            refine ⟨?_⟩
            simp only [fill]
            go_simp
            first | exact ⟨Keeps.refl _ _, rfl⟩ | exact ⟨Keeps.alloc _ _, rfl⟩
          simp only [addEnt]
          apply loose_is
          · intro W vals hW hkn
            clear hkn
            refine ⟨?_⟩
            simp only [fill]
            go_simp
            first | exact ⟨Keeps.refl _ _, rfl⟩ | exact ⟨Keeps.alloc _ _, rfl⟩
          simp only [addEnt]
          apply loose_is
          · intro W vals hW hkn
            clear hkn
            refine ⟨?_⟩
            simp only [fill]
            go_simp
            first | exact ⟨Keeps.refl _ _, rfl⟩ | exact ⟨Keeps.alloc _ _, rfl⟩
          simp only [addEnt]
          apply loose_is
          · intro W vals hW hkn
            clear hkn
            refine ⟨?_⟩
            simp only [fill]
            go_simp
            first | exact ⟨Keeps.refl _ _, rfl⟩ | exact ⟨Keeps.alloc _ _, rfl⟩
          simp only [addEnt]
          apply loose_is
          · intro W vals hW hkn
            clear hkn
            refine ⟨?_⟩
            simp only [fill]
            go_simp
            first | exact ⟨Keeps.refl _ _, rfl⟩ | exact ⟨Keeps.alloc _ _, rfl⟩
          simp only [addEnt]
          apply loose_is
          · intro W vals hW hkn
            clear hkn
            refine ⟨?_⟩
            simp only [fill]
            go_simp
            first | exact ⟨Keeps.refl _ _, rfl⟩ | exact ⟨Keeps.alloc _ _, rfl⟩
          simp only [addEnt]
          apply loose_is
          · intro W vals hW hkn
            clear hkn
            refine ⟨?_⟩
            simp only [fill]
            go_simp
            first | exact ⟨Keeps.refl _ _, rfl⟩ | exact ⟨Keeps.alloc _ _, rfl⟩
          simp only [addEnt]
          refine loose_nil (fun W vals hW hkn => ?_)
          simp only [knowsAll] at hkn
          try simp only [and_true] at hkn
          simp only [fill, Act.put, List.setIfInBounds_toArray, List.set_cons_succ, List.set_cons_zero]
          have HW14 := Lib.hid (show Keeps w12 W [] from hW)
          clear hW hkn G1
          gi_wp2_with fail
          refine wpIn_region_tail rfl _ 10 (by kernel_rfl) rfl (by kernel_rfl) (by kernel_rfl) ?_
          simp only [List.take_succ_cons, List.take_zero, List.drop_succ_cons, List.drop_zero]
          apply loose_is
          · intro W vals hW hkn
            clear hkn
            refine ⟨?_⟩
            simp only [fill]
            go_simp
            first | exact ⟨Keeps.refl _ _, rfl⟩ | exact ⟨Keeps.alloc _ _, rfl⟩
          simp only [addEnt]
          apply loose_is
          · intro W vals hW hkn
            clear hkn
            refine ⟨?_⟩
            simp only [fill]
            go_simp
            first | exact ⟨Keeps.refl _ _, rfl⟩ | exact ⟨Keeps.alloc _ _, rfl⟩
          simp only [addEnt]
          apply loose_is
          · intro W vals hW hkn
            clear hkn
            refine ⟨?_⟩
            simp only [fill]
            go_simp
            first | exact ⟨Keeps.refl _ _, rfl⟩ | exact ⟨Keeps.alloc _ _, rfl⟩
          simp only [addEnt]
          apply loose_is
          · intro W vals hW hkn
            clear hkn
            refine ⟨?_⟩
            simp only [fill]
            go_simp
            first | exact ⟨Keeps.refl _ _, rfl⟩ | exact ⟨Keeps.alloc _ _, rfl⟩
          simp only [addEnt]
          apply loose_is
          · intro W vals hW hkn
            clear hkn
            refine ⟨?_⟩
            simp only [fill]
            go_simp
            first | exact ⟨Keeps.refl _ _, rfl⟩ | exact ⟨Keeps.alloc _ _, rfl⟩
          simp only [addEnt]
          apply loose_is
          · intro W vals hW hkn
            clear hkn
            refine ⟨?_⟩
            simp only [fill]
            go_simp
            first | exact ⟨Keeps.refl _ _, rfl⟩ | exact ⟨Keeps.alloc _ _, rfl⟩
          simp only [addEnt]
          apply loose_is
          · intro W vals hW hkn
            clear hkn
            refine ⟨?_⟩
            simp only [fill]
            go_simp
            first | exact ⟨Keeps.refl _ _, rfl⟩ | exact ⟨Keeps.alloc _ _, rfl⟩
          simp only [addEnt]
          apply loose_is
          · intro W vals hW hkn
            clear hkn
            refine ⟨?_⟩
            simp only [fill]
            go_simp
            first | exact ⟨Keeps.refl _ _, rfl⟩ | exact ⟨Keeps.alloc _ _, rfl⟩
          simp only [addEnt]
          apply loose_is
          · intro W vals hW hkn
            clear hkn
            refine ⟨?_⟩
            simp only [fill]
            go_simp
            first | exact ⟨Keeps.refl _ _, rfl⟩ | exact ⟨Keeps.alloc _ _, rfl⟩
          simp only [addEnt]
          apply loose_is
          · intro W vals hW hkn
            clear hkn
            refine ⟨?_⟩
            simp only [fill]
            go_simp
            first | exact ⟨Keeps.refl _ _, rfl⟩ | exact ⟨Keeps.alloc _ _, rfl⟩
          simp only [addEnt]
          refine loose_nil (fun W vals hW hkn => ?_)
          simp only [knowsAll] at hkn
          try simp only [and_true] at hkn
          simp only [fill, Act.put, List.setIfInBounds_toArray, List.set_cons_succ, List.set_cons_zero]
          have HW15 := Lib.hid (show Keeps w12 W [] from HW14.out.trans hW (by simp))
          clear hW hkn
          refine ⟨?_⟩
          refine wpListIn_copyRow rfl _ _ 32 32 rfl (by kernel_rfl) (by kernel_rfl) gx (64 * 3) 64 (256 - 64 * 3) gv (q * 256 + 64 * 3) 64 (256 - 64 * 3) 72 X (((b.drop (64 * 3)).take 64).map byteV) (H13.out.1.keeps HW15.out) (by go_simp) (by go_simp) (by rw [HCS.out.1 3 (by omega)]; rfl) (HCS.out.2.2 3 (by omega) W HW15.out) (by rw [HCS.out.1 3 (by omega), HX.out.1]; omega) (HCS.out.2.1 3) ?_
          intro w15 hr15 hk15
          rw [← HX.out.2.2.2, graft_leaf HB8.out (by omega)] at hr15
          have H15 := Lib.hid (And.intro hr15 hk15)
          clear hr15 hk15
          simp only [Act.put, List.setIfInBounds_toArray, List.set_cons_succ, List.set_cons_zero]
          have kw15 : Keeps WB w15 [gx] := (((HRX.out.2.2.weaken (T := [gx]) (by simp)).trans H13.out.2 (fun _ h _ => h)).trans HW15.out (by simp)).trans H15.out.2 (fun _ h _ => h)
          have hbig := HRX.out.2.1
          have hc15 := H12.out.1.keep kw15 (by have := H12.out.1.lt; simp; omega)
          have hb15 := H12.out.2.1.keep kw15 (by have := H12.out.2.1.lt; simp; omega)
          have hg15 := H12.out.2.2.1.keep kw15 (by have := H12.out.2.2.1.lt; simp; omega)
          have hm15 := H12.out.2.2.2.1.keep kw15 (by have := H12.out.2.2.2.1.lt; simp; omega)
          have B6 := fun (W' : World) (hW : Keeps w15 W' []) => (hb15.keeps hW).cell 0
          have C4 := fun (W' : World) (hW : Keeps w15 W' []) => (hc15.keeps hW).cell 4
          have G0 := fun (W' : World) (hW : Keeps w15 W' []) => (hg15.keeps hW).cell 0
          simp only [dkRow, List.getElem?_toArray, List.getElem?_cons_zero, List.getElem?_cons_succ] at B6 C4 G0
          have H16 := Lib.hid (And.intro kw15 hm15)
          obtain ⟨X2, hX2⟩ : ∃ X2, leafC (graft pg b 3) = X2 := ⟨_, rfl⟩
          have HX2 := Lib.hid (And.intro hX2 (show X2.size = 256 by rw [← hX2, leafC_size, graft_length H12.out.2.2.2.2.2 HB8.out (by omega)]))
          have HR2 := Lib.hid (show Row w15 gx 72 X2 by rw [← hX2]; exact H15.out.1)
          clear kw15 hbig hc15 hb15 hg15 hm15 hX2
          gi_wp2_with fail
          refine wpIn_region_tail rfl _ 7 (by kernel_rfl) rfl (by kernel_rfl) (by kernel_rfl) ?_
          simp only [List.take_succ_cons, List.take_zero, List.drop_succ_cons, List.drop_zero]
          apply loose_is
          · intro W vals hW hkn
            clear hkn
            refine ⟨?_⟩
            simp only [fill]
            go_simp
            first | exact ⟨Keeps.refl _ _, rfl⟩ | exact ⟨Keeps.alloc _ _, rfl⟩
          simp only [addEnt]
          apply loose_is
          · intro W vals hW hkn
            clear hkn
            refine ⟨?_⟩
            simp only [fill]
            go_simp
            first | exact ⟨Keeps.refl _ _, rfl⟩ | exact ⟨Keeps.alloc _ _, rfl⟩
          simp only [addEnt]
          apply loose_is
          · intro W vals hW hkn
            clear hkn
            refine ⟨?_⟩
            simp only [fill]
            go_simp
            first | exact ⟨Keeps.refl _ _, rfl⟩ | exact ⟨Keeps.alloc _ _, rfl⟩
          simp only [addEnt]
          apply loose_is
          · intro W vals hW hkn
            clear hkn
            refine ⟨?_⟩
            simp only [fill]
            go_simp
            first | exact ⟨Keeps.refl _ _, rfl⟩ | exact ⟨Keeps.alloc _ _, rfl⟩
          simp only [addEnt]
          apply loose_is
          · intro W vals hW hkn
            clear hkn
            refine ⟨?_⟩
            simp only [fill]
            go_simp
            first | exact ⟨Keeps.refl _ _, rfl⟩ | exact ⟨Keeps.alloc _ _, rfl⟩
          simp only [addEnt]
          apply loose_is
          · intro W vals hW hkn
            clear hkn
            refine ⟨?_⟩
            simp only [fill]
            go_simp
            first | exact ⟨Keeps.refl _ _, rfl⟩ | exact ⟨Keeps.alloc _ _, rfl⟩
          simp only [addEnt]
          apply loose_is
          · intro W vals hW hkn
            clear hkn
            exact opOk_loadLeaf rfl _ rfl gx 0 X2 HX2.out.2 (by simp only [fill]; go_simp) (Row.range (HR2.out.keeps hW)) (Keeps.refl _ _)
          simp only [addEnt]
          refine loose_nil (fun W vals hW hkn => ?_)
          simp only [knowsAll] at hkn
          try simp only [and_true] at hkn
          simp only [fill, Act.put, List.setIfInBounds_toArray, List.set_cons_succ, List.set_cons_zero]
          have HW16 := Lib.hid (show Keeps w15 W [] from hW)
          clear hW hkn B6 C4 G0
          obtain ⟨w20, hrun20, hp20, hk20, hmt20⟩ := (H16.out.2.keep HW16.out (by simp)).store undIntD undDisk (pageF_dom H.out.ok.p4 HI.out.2.2.2.1) pageDom_lt (x := xp) (by have := HI.out.2.2.2.2.2.2.2.2.2.2.2.1; omega) (by have := HI.out.2.2.2.2.2.2.2.2.2.2.2.1; omega) (.agg X2)
          have HK20 := Lib.hid (And.intro hp20 hk20)
          clear hp20 hk20 hmt20
          refine ⟨?_⟩
          gi_wp2_with fail
          have kB2 : Keeps WB w20 [gx, b5] := ((H16.out.1.weaken (T := [gx, b5]) (by simp)).trans HW16.out (by simp)).trans HK20.out.2 (fun x hx _ => by simp at hx ⊢; omega)
          have hbig := HRX.out.2.1
          have hBA := HB.out.1.size
          have hAS := HI.out.1.k.size
          have hss := HS.out
          have hys := HY.out.2.2.2
          have kA : Keeps WA w20 [w.heap.size, b5] := (HB.out.1.weaken (T := [w.heap.size, b5]) (by simp)).trans kB2 (fun x hx hlt => by simp at hx ⊢; omega)
          refine ⟨KeepsFrom.of_keepsS kA _ (by simp; omega), KpS.of kA HI.out.1.k.size, ⟨fun y => if y = xp then some (graft pg b 3) else M y, ps, A8, cap9 - 1, ?_, ?_, ?_, HB.out.2.1.keep kB2 (by simp; omega), HB.out.2.2.1.keep kB2 (by omega) (fun x hx => by simp at hx; omega), HB.out.2.2.2⟩, HI.out.1.k.trans kA (fun _ h _ => h)⟩
          · rw [List.map_append, List.map_singleton, secRun_snoc, HI.out.2.1]
            exact secStep_pick HQ.out.1 HNX.out.1 HKW.out.2.2 H12.out.2.2.2.2.1
          · have h9 := HK20.out.1
            rw [← HX2.out.1, ← leafV, pageF_upd] at h9
            exact h9
          · exact pagesOk_upd HI.out.2.2.2.1 H.out.ok.w HI.out.2.2.2.2.2.2.2.2.2.2.2.1.2.2 (graft_length H12.out.2.2.2.2.2 HB8.out (by omega))
end Go.Proofs.Ytehlabdbbbbopaa

namespace Go.Proofs.Ytehlabdbbbbopaa
open Go.RowKit Go.Maps

theorem dkCrash_any {w : World} {d m1 m2 : Nat} {V : Value} {D : Dk} (h : DkAt w d m1 m2 V D) (hl : D.waits.length ≤ 1000000) (A : Option Addr) (cap : Nat) (picks : List Int) (hp : Lies w w.heap.size A (picks.map encZ)) (hcap : picks.length ≤ cap) :
    Calls Try.prog 19 #[.pointer (some ⟨d, 0, none⟩), .slice A picks.length cap] w (CrashPost w D picks) :=
  callsIn_wide.1 (dkCrash_in 3 (by omega) h hl A cap picks hp hcap)
end Go.Proofs.Ytehlabdbbbbopaa

namespace Go.Proofs.Ytehlabdbbbbopaa
open Go.RowKit Go.Maps

/-- No disk: nil, or one without a map. -/
def NoDk (w : World) (p : Option Addr) : Prop := p = none ∨ ∃ z cs, p = some ⟨z, 0, none⟩ ∧ Row w z 67 cs ∧ cs[4]? = some (.map none)
section
variable {w w' : World} {p q : Option Addr}
theorem NoDk.keeps (h : NoDk w p) (hk : Keeps w w' []) : NoDk w' p := by
  rcases h with h | ⟨z, cs, h1, h2, h3⟩
  · exact .inl h
  · exact .inr ⟨z, cs, h1, h2.keeps hk, h3⟩
theorem noDk_none (h : NoDk w p) : Calls Try.prog 28 #[.pointer p] w fun e w' => e = .returned (.bool true) ∧ w = w' := by
  rcases h with rfl | ⟨z, cs, rfl, h2, h3⟩
  · exact dkNone_nil w
  · exact dkNone_at w z cs none h2 h3
set_option maxRecDepth 100000 in
theorem noDk_dead (h : NoDk w p) (_ : Int) : Calls Try.prog 15 #[.pointer p] w fun e w' => e = .returned (.bool false) ∧ Keeps w w' [] := by
  have HN := Lib.hid h
  clear h
  go_enter Try.func15, Try.ntmps15
  go_wp2_with fail
  refine (noDk_none HN.out).mono ?_
  rintro e w' ⟨rfl, rfl⟩
  go_wp2_with fail
  go_ret
  exact ⟨rfl, Keeps.refl _ _⟩
set_option maxRecDepth 100000 in
theorem noDk_pages (h : NoDk w p) (_ : Int) : Calls Try.prog 27 #[.pointer p] w fun e w' => e = .returned (.int .i64 0) ∧ Keeps w w' [] := by
  have HN := Lib.hid h
  clear h
  go_enter Try.func27, Try.ntmps27
  go_wp2_with fail
  refine (noDk_none HN.out).mono ?_
  rintro e w' ⟨rfl, rfl⟩
  go_wp2_with fail
  go_ret
  exact ⟨rfl, Keeps.refl _ _⟩
set_option maxRecDepth 100000 in
theorem noDk_waits (h : NoDk w p) (_ : Int) : Calls Try.prog 25 #[.pointer p] w fun e w' => e = .returned (.int .i64 0) ∧ Keeps w w' [] := by
  have HN := Lib.hid h
  clear h
  go_enter Try.func25, Try.ntmps25
  go_wp2_with fail
  refine (noDk_none HN.out).mono ?_
  rintro e w' ⟨rfl, rfl⟩
  go_wp2_with fail
  go_ret
  exact ⟨rfl, Keeps.refl _ _⟩
set_option maxRecDepth 100000 in
theorem noDk_steps (h : NoDk w p) (_ : Int) : Calls Try.prog 16 #[.pointer p] w fun e w' => e = .returned (.int .i64 0) ∧ Keeps w w' [] := by
  have HN := Lib.hid h
  clear h
  go_enter Try.func16, Try.ntmps16
  go_wp2_with fail
  refine (noDk_none HN.out).mono ?_
  rintro e w' ⟨rfl, rfl⟩
  go_wp2_with fail
  go_ret
  exact ⟨rfl, Keeps.refl _ _⟩
set_option maxRecDepth 100000 in
theorem noDk_copy (h : NoDk w p) (_ : Int) : Calls Try.prog 20 #[.pointer p] w fun e w' => e = .returned (.pointer none) ∧ Keeps w w' [] := by
  have HN := Lib.hid h
  clear h
  go_enter Try.func20, Try.ntmps20
  go_wp2_with fail
  refine (noDk_none HN.out).mono ?_
  rintro e w' ⟨rfl, rfl⟩
  go_wp2_with fail
  go_ret
  exact ⟨rfl, Keeps.refl _ _⟩
set_option maxRecDepth 100000 in
theorem noDk_arm (h : NoDk w p) (k x : Int) : Calls Try.prog 11 #[.pointer p, .int .i64 k, .int .i64 x] w fun e w' => e = .returned (.int .i64 1) ∧ Keeps w w' [] := by
  have HN := Lib.hid h
  clear h
  go_enter Try.func11, Try.ntmps11
  go_wp2_with fail
  refine (noDk_none HN.out).mono ?_
  rintro e w' ⟨rfl, rfl⟩
  go_wp2_with fail
  go_ret
  exact ⟨rfl, Keeps.refl _ _⟩
set_option maxRecDepth 100000 in
theorem noDk_read (h : NoDk w p) (x : Int) : Calls Try.prog 21 #[.pointer p, .int .i64 x] w fun e w' => e = .returned (.tuple #[.slice none 0 0, .int .i64 1]) ∧ Keeps w w' [] := by
  have HN := Lib.hid h
  clear h
  go_enter Try.func21, Try.ntmps21
  go_wp2_with fail
  refine (noDk_none HN.out).mono ?_
  rintro e w' ⟨rfl, rfl⟩
  go_wp2_with fail
  go_ret2
  exact ⟨rfl, Keeps.refl _ _⟩
set_option maxRecDepth 100000 in
theorem noDk_flush (h : NoDk w p) : Calls Try.prog 12 #[.pointer p] w fun e w' => e = .returned (.int .i64 1) ∧ Keeps w w' [] := by
  have HN := Lib.hid h
  clear h
  go_enter Try.func12, Try.ntmps12
  go_wp2_with fail
  refine (noDk_none (HN.out.keeps (Keeps.alloc _ _))).mono ?_
  rintro e w' ⟨rfl, rfl⟩
  go_wp2_with fail
  go_ret
  exact ⟨rfl, Keeps.alloc _ _⟩
set_option maxRecDepth 100000 in
theorem noDk_write (h : NoDk w p) (x : Int) (A : Option Addr) (n c : Nat) : Calls Try.prog 13 #[.pointer p, .int .i64 x, .slice A n c] w fun e w' => e = .returned (.int .i64 1) ∧ Keeps w w' [] := by
  have HN := Lib.hid h
  clear h
  go_enter Try.func13, Try.ntmps13
  go_wp2_with fail
  have k1 := ((Keeps.alloc w (.cells #[.pointer p] 24)).then_alloc (.cells #[.int .i64 x] 3)).then_alloc (.cells #[.slice A n c] 32)
  have r1 := ((Row.new w 24 #[.pointer p]).alloc (.cells #[.int .i64 x] 3)).alloc (.cells #[.slice A n c] 32)
  have c0 := r1.cell 0
  simp only [List.getElem?_toArray, List.getElem?_cons_zero] at c0
  refine (noDk_none (HN.out.keeps k1)).mono ?_
  rintro e w' ⟨rfl, rfl⟩
  go_wp2_with fail
  go_ret
  exact ⟨rfl, k1⟩
set_option maxRecDepth 100000 in
theorem noDk_same (h : NoDk w p) (h' : NoDk w q) : Calls Try.prog 26 #[.pointer p, .pointer q] w fun e w' => e = .returned (.bool true) ∧ Keeps w w' [] := by
  have HN := Lib.hid (And.intro h h')
  clear h h'
  go_enter Try.func26, Try.ntmps26
  go_wp2_with fail
  refine (noDk_none HN.out.1).mono ?_
  rintro e w' ⟨rfl, rfl⟩
  go_wp2_with fail
  refine (noDk_none HN.out.1).mono ?_
  rintro e w' ⟨rfl, rfl⟩
  go_wp2_with fail
  refine (noDk_none HN.out.2).mono ?_
  rintro e w' ⟨rfl, rfl⟩
  go_wp2_with fail
  go_ret
  exact ⟨rfl, Keeps.refl _ _⟩
set_option maxRecDepth 100000 in
/-- A disk and none are not the same. -/
theorem dkSame_no {d m1 m2 : Nat} {V : Value} {D : Dk} (h : DkAt w d m1 m2 V D) (h' : NoDk w q) : Calls Try.prog 26 #[.pointer (some ⟨d, 0, none⟩), .pointer q] w fun e w' => e = .returned (.bool false) ∧ Keeps w w' [] := by
  have HN := Lib.hid (And.intro h h')
  clear h h'
  go_enter Try.func26, Try.ntmps26
  go_wp2_with fail
  refine (dkNone_any HN.out.1).mono ?_
  rintro e w' ⟨rfl, rfl⟩
  go_wp2_with fail
  refine (noDk_none HN.out.2).mono ?_
  rintro e w' ⟨rfl, rfl⟩
  go_wp2_with fail
  refine (dkNone_any HN.out.1).mono ?_
  rintro e w' ⟨rfl, rfl⟩
  go_wp2_with fail
  go_ret
  exact ⟨rfl, Keeps.refl _ _⟩
set_option maxRecDepth 100000 in
set_option maxHeartbeats 1000000 in
theorem noDk_crash (h : NoDk w p) (A : Option Addr) (n c : Nat) : Calls Try.prog 19 #[.pointer p, .slice A n c] w fun e w' => e = .returned (.tuple #[.pointer none, .int .i64 1]) ∧ Keeps w w' [] := by
  have HN := Lib.hid h
  clear h
  refine (callsIn_wide (n := 3)).1 ?_
  have hro : Fence.wide.round = none := rfl
  refine callsIn_of_wp_marks Try.func19 rfl trivial ?_ hro
  simp only [Try.ntmps19, List.size_toArray, List.length_cons, List.length_nil, Nat.reduceAdd, Nat.reduceSub, Array.replicate_succ, Array.replicate_zero, List.push_toArray, List.append_toArray, List.nil_append, List.cons_append]
  gi_wp2_with fail
  refine ⟨trivial, (callsIn_of rfl (noDk_none (HN.out.keeps (Keeps.alloc _ _)))).mono ?_⟩
  rintro e w1 ⟨rfl, rfl⟩
  gi_wp2_with fail
  refine ⟨.tuple #[.pointer none, .int .i64 1], ?_, rfl, Keeps.alloc _ _⟩
  simp [results, Try.results19, go_sem]
end
end Go.Proofs.Ytehlabdbbbbopaa
