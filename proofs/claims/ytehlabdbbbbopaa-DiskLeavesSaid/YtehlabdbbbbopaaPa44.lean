/- The law of layer 2: an empty reference, made anew at each call. The statement DiskFlushes (layer 2): its walk. The statement DiskFlushes (layer 2): its walk behind the first tests. -/
import Derived.Test.YtehlabdbbbbopaaPa43
import Derived.Test.YtehlabdbbbbopaaPa39

namespace Go.Proofs.Ytehlabdbbbbopaa
open Go.RowKit Go.Maps Go.Shelf

theorem infoTxt : (Try.prog.info? 9).map (fun i => (i.zero, i.size, i.bytes)) = some (some (.string ⟨#[]⟩), 1, 16) := by kernel_rfl
theorem undTxts : Try.prog.underlying 40 = some (.slice 9) := by kernel_rfl
/-- n empty texts. -/
abbrev noTxts (n : Nat) : Array Value := ((List.replicate n ([] : List UInt8)).flatMap txtV).toArray
theorem made_txts (n : Nat) : madeCells (Value.string ⟨#[]⟩).cells n = noTxts n := by
  have e : ∀ n : Nat, (List.replicate n ([] : List UInt8)).flatMap txtV = List.replicate n (.string ⟨#[]⟩) := fun n => by
    induction n with
    | zero => rfl
    | succ n ih => rw [List.replicate_succ, List.flatMap_cons, ih]; rfl
  unfold noTxts
  rw [e]
  unfold madeCells
  refine Array.ext (by simp) fun i h1 h2 => ?_
  simp [Value.cells, Nat.mod_one]
theorem mk_txts (w : World) (n : Nat) (hn : n ≤ 1000000) : (Instr.makeSlice 40 (.int .i64 (n : Int)) (.int .i64 (n : Int))).run Try.prog w = .ok (.slice (some ⟨w.heap.size, 0, none⟩) n n) (w.alloc (.cells (noTxts n) 9)) := by
  obtain ⟨i0, hi, hz0, hz1, hz2⟩ := info_parts infoTxt
  have := run_makeSlice (P := Try.prog) w 40 9 i0 (.string ⟨#[]⟩) undTxts hi hz0 .i64 .i64 n n (by omega) (Int.le_refl _) (by rw [hz1]; omega) (by rw [hz2]; omega) (by omega)
  rw [hz1, Nat.mul_one, Int.toNat_natCast, made_txts] at this
  exact this
/-- A reference on which nothing stands. -/
def Rk.bare (n : Nat) : Rk := ⟨List.replicate n [], [], 0, 0, false, 0⟩
theorem RkFit.bare {n : Nat} (h : n ≤ 4096) : RkFit (Rk.bare n) := ⟨by simp [Rk.bare], by simp [Rk.bare]; omega, fun p hp => by cases hp⟩
theorem rkAt_bare {w : World} {b n : Nat} (h : Row w b 9 (noTxts n)) : RkAt w (.agg #[.slice (some ⟨b, 0, none⟩) n n, .slice none 0 0, .int .i64 0, .int .i64 0, .bool false, .int .i64 0]) (Rk.bare n) :=
  ⟨some ⟨b, 0, none⟩, n, none, 0, by simp [Rk.bare], listAt_row encTxt h, fun hp => absurd hp (by simp [Rk.bare])⟩
end Go.Proofs.Ytehlabdbbbbopaa

namespace Go.Proofs.Ytehlabdbbbbopaa
open Go.RowKit Go.Maps Go.Shelf

/-- How often each page was written. -/
def cntF (ws : List (Int × List UInt8)) : Int → Option Value := fun x => if pagesOf ws x = [] then none else some (.int .i64 ((pagesOf ws x).length : Nat))
theorem cntF_get (ws : List (Int × List UInt8)) (x : Int) : (cntF ws x).getD (.int .i64 0) = .int .i64 ((pagesOf ws x).length : Nat) := by
  unfold cntF
  by_cases h : pagesOf ws x = []
  · rw [if_pos h, h]; rfl
  · rw [if_neg h]; rfl
theorem cntF_nil : (fun _ => none : Int → Option Value) = cntF [] := by
  funext x
  unfold cntF
  rw [if_pos (show pagesOf [] x = [] from rfl)]
theorem cntF_cons (p : Int) (b : List UInt8) (ws : List (Int × List UInt8)) : upd (cntF ws) p (some (.int .i64 (((pagesOf ws p).length + 1 : Nat) : Int))) = cntF ((p, b) :: ws) := by
  funext x
  unfold upd cntF pagesOf
  by_cases h : x = p
  · subst h; simp
  · have h' : (p == x) = false := by simpa using fun e : p = x => h e.symm
    simp only [if_neg h, List.filter_cons, h', if_neg Bool.false_ne_true]
theorem cntF_dom (ws : List (Int × List UInt8)) (n : Nat) (h : ∀ p ∈ ws, 0 ≤ p.1 ∧ p.1 < n) : ∀ x, cntF ws x ≠ none → x ∈ (List.range n).map (fun k : Nat => (k : Int)) := fun x hx => by
  unfold cntF at hx
  by_cases hp : pagesOf ws x = []
  · rw [if_pos hp] at hx; exact absurd rfl hx
  · obtain ⟨b, hb⟩ := List.exists_mem_of_ne_nil _ hp
    have := h _ (pagesOf_in hb)
    exact List.mem_map.2 ⟨x.toNat, List.mem_range.2 (by simp only at this; omega), by simp only at this; omega⟩
theorem newW_in {n : Nat} {l : List ActV} : ∀ p ∈ l.flatMap (newW n), 0 ≤ p.1 ∧ p.1 < n := fun p hp => by
  obtain ⟨x, _, hx⟩ := List.mem_flatMap.1 hp
  unfold newW at hx
  split at hx
  · obtain rfl := List.mem_singleton.1 hx
    rename_i h
    exact ⟨h.2.1, h.2.2.1⟩
  · cases hx
theorem newW_len {n : Nat} (l : List ActV) : (l.flatMap (newW n)).length ≤ l.length := by
  induction l with
  | nil => simp
  | cons x l ih =>
    rw [List.flatMap_cons, List.length_append, List.length_cons]
    have : (newW n x).length ≤ 1 := by unfold newW; split <;> simp
    omega
theorem pagesOf_len (ws : List (Int × List UInt8)) (x : Int) : (pagesOf ws x).length ≤ ws.length := by
  unfold pagesOf
  rw [List.length_map]
  exact List.length_filter_le _ _
theorem Calm.fresh (n : Nat) : Calm (Dk.fresh n) := ⟨rfl, rfl⟩
theorem Calm.flush {D : Dk} (h : Calm D) : ∃ D', D.flush = (0, D') ∧ D'.waits = [] ∧ D'.lasts = D.now ∧ D'.pages = D.pages := by
  unfold Dk.flush
  rw [if_neg (by rw [h.code]; simp), h.ticked]
  exact ⟨_, rfl, rfl, rfl, rfl⟩
/-- Whole numbers of the call's own. -/
def intE (x : Int) : List Value := [.int .i64 x]
theorem encInt : Enc 1 intE := ⟨by omega, fun _ => rfl, fun a u hu => by obtain rfl := List.mem_singleton.1 hu; rfl⟩
theorem elemInt : ElemN Try.prog 37 3 1 := elemN_of (bytes := 8) (z := .int .i64 0) (by kernel_rfl) (by kernel_rfl) (by omega) rfl
theorem intE_map (l : List Int) : l.flatMap intE = l.map encZ := by
  induction l with
  | nil => rfl
  | cons a l ih => rw [List.flatMap_cons, ih]; rfl
theorem undCnt : Try.prog.underlying 46 = some (.map 3 3) := by kernel_rfl
theorem zeroCnt (w : World) : (zeroValue 3).run Try.prog w = .ok (.int .i64 0) w := by kernel_rfl
abbrev CMap (w : World) (b : Nat) (f : Int → Option Value) : Prop := IMap w Try.prog 3 b f
set_option maxRecDepth 100000 in
set_option maxHeartbeats 4000000 in
theorem diskFlushes_far (w : World) (x : Int) (A B : Option Addr) (c d n m : Nat) (h : (40 : Int) < n ∨ (60 : Int) < m ∨ 20 < x) :
    Calls Try.prog 4 #[.int .i64 x, .slice A n c, .slice B m d] w fun e w' => e = .returned (.bool true) ∧ Keeps w w' [] := by
  by_cases h1 : (40 : Int) < n
  · clear h
    go_enter Try.func4, Try.ntmps4
    go_wp2_with fail
    refine (known2_go (Keeps.refl w [])).mono ?_
    rintro e w' ⟨rfl, hk⟩
    have HK := Lib.hid hk
    clear hk
    go_wp2_with fail
    go_ret
    exact ⟨rfl, HK.out⟩
  · by_cases h2 : (60 : Int) < m
    · clear h
      go_enter Try.func4, Try.ntmps4
      go_wp2_with fail
      refine (known2_go (Keeps.refl w [])).mono ?_
      rintro e w' ⟨rfl, hk⟩
      have HK := Lib.hid hk
      clear hk
      go_wp2_with fail
      go_ret
      exact ⟨rfl, HK.out⟩
    · have h3 : 20 < x := by omega
      clear h
      go_enter Try.func4, Try.ntmps4
      go_wp2_with fail
      refine (known2_go (Keeps.refl w [])).mono ?_
      rintro e w' ⟨rfl, hk⟩
      have HK := Lib.hid hk
      clear hk
      go_wp2_with fail
      go_ret
      exact ⟨rfl, HK.out⟩
set_option maxRecDepth 100000 in
set_option maxHeartbeats 4000000 in
theorem diskFlushes_none (w : World) (x : Int) (A B : Option Addr) (c d n m : Nat) (h1 : ¬ (40 : Int) < n) (h2 : ¬ (60 : Int) < m) (h3 : x < 2) :
    Calls Try.prog 4 #[.int .i64 x, .slice A n c, .slice B m d] w fun e w' => e = .returned (.bool true) ∧ Keeps w w' [] := by
  have HX := Lib.hid (show ¬ (2 ≤ x ∧ x ≤ 4096) by omega)
  have h4 : ¬ 20 < x := by omega
  clear h3
  go_enter Try.func4, Try.ntmps4
  go_wp2_with fail
  refine (dkNew_bad w x HX.out).mono ?_
  rintro e w1 ⟨rfl, hk⟩
  have H1 := Lib.hid hk
  clear hk
  go_wp2_with fail
  refine (known2_go H1.out).mono ?_
  rintro e w' ⟨rfl, hk⟩
  have HK := Lib.hid hk
  clear hk
  go_wp2_with fail
  go_ret
  exact ⟨rfl, HK.out⟩
theorem lastPicks_len (ws : List (Int × List UInt8)) (n : Nat) : (lastPicks ws n).length ≤ 4 * n := by
  induction n with
  | zero => exact Nat.le_refl _
  | succ n ih =>
    rw [lastPicks_succ, List.length_append]
    split <;> simp <;> omega
/-- What stands while calls are made. -/
structure FlAt (w wr : World) (d n : Nat) (l : List ActV) : Prop where
  dk : DkIn w wr d (calmRun (Dk.fresh n) l)
  rel : ∃ R, DkRk (calmRun (Dk.fresh n) l) R
  wl : (calmRun (Dk.fresh n) l).waits.length ≤ l.length
theorem FlAt.step {w wr wr' : World} {d n : Nat} {l : List ActV} {x : ActV} (h : FlAt w wr d n l) (h3 : x.k ≠ 3) (hd : DkIn w wr' d ((calmRun (Dk.fresh n) l).act x).2) : FlAt w wr' d n (l ++ [x]) := by
  have e : calmRun (Dk.fresh n) (l ++ [x]) = ((calmRun (Dk.fresh n) l).act x).2 := by rw [calmRun_snoc, if_neg h3]
  obtain ⟨R, hR⟩ := h.rel
  refine ⟨by rw [e]; exact hd, ⟨(R.act x).2, by rw [e]; exact (hR.act h.dk.ok x).2⟩, ?_⟩
  rw [e, List.length_append]
  have := ((calmRun (Dk.fresh n) l).act_size x).1
  have := h.wl
  simp only [List.length_cons, List.length_nil]
  omega
theorem FlAt.still {w wr : World} {d n : Nat} {l : List ActV} {x : ActV} (h : FlAt w wr d n l) (h3 : x.k = 3) : FlAt w wr d n (l ++ [x]) := by
  have e : calmRun (Dk.fresh n) (l ++ [x]) = calmRun (Dk.fresh n) l := by rw [calmRun_snoc, if_pos h3]
  refine ⟨by rw [e]; exact h.dk, by rw [e]; exact h.rel, ?_⟩
  rw [e, List.length_append]
  have := h.wl
  omega
/-- What stands behind the calls. -/
structure FlEnd (w W1 : World) (d n : Nat) (l : List ActV) (D : Dk) : Prop where
  dk : DkIn w W1 d D
  rel : ∃ R, DkRk D R
  wl : D.waits.length ≤ l.length
  cal : Calm D
  pg : D.pages = n
  tl : ∀ m, m ≤ l.length → (∀ x ∈ l.drop m, x.k ≠ 2) → (m = 0 ∨ ∃ h : m - 1 < l.length, l[m - 1].k = 2) → D.waits = (l.drop m).flatMap (newW n)
theorem FlAt.done {w W1 : World} {d n : Nat} {l : List ActV} (h : FlAt w W1 d n l) : FlEnd w W1 d n l (calmRun (Dk.fresh n) l) :=
  ⟨h.dk, h.rel, h.wl, (calmRun_calm (Calm.fresh n) l).1, (calmRun_calm (Calm.fresh n) l).2, fun _ hm hs he => calmRun_tail (Calm.fresh n) rfl hm hs he⟩
/-- What is counted from behind. -/
structure FlCnt (W1 wr : World) (mb n : Nat) (l : List ActV) : Prop where
  k : Keeps W1 wr []
  m : CMap wr mb (cntF (l.flatMap (newW n)))
  b : W1.heap.size ≤ mb
  two : ∀ x ∈ l, x.k ≠ 2
theorem FlCnt.keep {W1 wr wr' : World} {mb n : Nat} {l : List ActV} (h : FlCnt W1 wr mb n l) (hk : Keeps wr wr' []) : FlCnt W1 wr' mb n l := ⟨h.k.then_ hk, h.m.keep hk (by simp), h.b, h.two⟩
theorem FlCnt.skip {W1 wr : World} {mb n : Nat} {l : List ActV} {x : ActV} (h : FlCnt W1 wr mb n l) (h2 : x.k ≠ 2) (hx : ¬ (x.k = 1 ∧ 0 ≤ x.page ∧ x.page < n ∧ (actBytes x.page x.byte).length = 256)) : FlCnt W1 wr mb n (x :: l) := by
  refine ⟨h.k, ?_, h.b, fun y hy => ?_⟩
  · rw [List.flatMap_cons, show newW n x = [] by unfold newW; rw [if_neg hx], List.nil_append]
    exact h.m
  · rcases List.mem_cons.1 hy with rfl | hy
    · exact h2
    · exact h.two y hy
theorem FlCnt.add {W1 wr : World} {mb n : Nat} {l : List ActV} {x : ActV} (h : FlCnt W1 wr mb n l) (h2 : x.k ≠ 2) (hx : x.k = 1 ∧ 0 ≤ x.page ∧ x.page < n ∧ (actBytes x.page x.byte).length = 256) (hn : n ≤ 20) :
    ∃ w', (Instr.mapUpdate 46 (.map (some mb)) (.int .i64 x.page) (.int .i64 (((pagesOf (l.flatMap (newW n)) x.page).length + 1 : Nat) : Int))).run Try.prog wr = .ok () w' ∧ FlCnt W1 w' mb n (x :: l) := by
  obtain ⟨w', hrun, hm, hk, _⟩ := h.m.store undIntS undCnt (cntF_dom _ n newW_in) (by simp [maxLen]; omega) (x := x.page) (by omega) (by omega) (.int .i64 (((pagesOf (l.flatMap (newW n)) x.page).length + 1 : Nat) : Int))
  refine ⟨w', hrun, h.k.trans hk (fun y hy hlt => by have := h.b; simp at hy; omega), ?_, h.b, fun y hy => ?_⟩
  · rw [List.flatMap_cons, show newW n x = [(x.page, actBytes x.page x.byte)] by unfold newW; rw [if_pos hx], List.cons_append, List.nil_append, ← cntF_cons]
    exact hm
  · rcases List.mem_cons.1 hy with rfl | hy
    · exact h2
    · exact h.two y hy
theorem FlCnt.look {W1 wr : World} {mb n : Nat} {l : List ActV} (h : FlCnt W1 wr mb n l) {x : Int} (h1 : -9223372036854775808 ≤ x) (h2 : x ≤ 9223372036854775807) :
    (Instr.lookup 46 (.map (some mb)) (.int .i64 x) false).run Try.prog wr = .ok (.int .i64 ((pagesOf (l.flatMap (newW n)) x).length : Nat)) wr := by
  have := h.m.look (t := 46) undIntS undCnt (zeroCnt wr) h1 h2 false
  rw [if_neg Bool.false_ne_true, cntF_get] at this
  exact this
/-- The map of counts stays. -/
structure FlMap (W1 wr : World) (mb : Nat) (ws : List (Int × List UInt8)) : Prop where
  k : Keeps W1 wr []
  m : CMap wr mb (cntF ws)
  b : W1.heap.size ≤ mb
theorem FlMap.look {W1 wr : World} {mb : Nat} {ws : List (Int × List UInt8)} (h : FlMap W1 wr mb ws) {x : Int} (h1 : -9223372036854775808 ≤ x) (h2 : x ≤ 9223372036854775807) :
    (Instr.lookup 46 (.map (some mb)) (.int .i64 x) false).run Try.prog wr = .ok (.int .i64 ((pagesOf ws x).length : Nat)) wr := by
  have := h.m.look (t := 46) undIntS undCnt (zeroCnt wr) h1 h2 false
  rw [if_neg Bool.false_ne_true, cntF_get] at this
  exact this
theorem FlMap.keep {W1 wr wr' : World} {mb : Nat} {ws : List (Int × List UInt8)} {S : List Nat} (h : FlMap W1 wr mb ws) (hk : Keeps wr wr' S) (hS : ∀ x ∈ S, W1.heap.size ≤ x ∧ x ≠ mb) : FlMap W1 wr' mb ws :=
  ⟨h.k.trans hk (fun y hy hlt => by have := (hS y hy).1; omega), h.m.keep hk (fun hm => (hS _ hm).2 rfl), h.b⟩
end Go.Proofs.Ytehlabdbbbbopaa

namespace Go.Proofs.Ytehlabdbbbbopaa
open Go.RowKit Go.Maps Go.Shelf

theorem own_le {α : Type} {w : World} {B k : Nat} {e : TypeId} {f : α → List Value} {A : Option Addr} {c : Nat} {l : List α} (h : OwnN w B e k f (.slice A l.length c) l) : l.length ≤ c := by
  rcases h.2 with ⟨hv, h0⟩ | ⟨g, cap, cur, hv, hg, hh, h1, _⟩
  · omega
  · injection hv with e1 e2 e3
    subst e3
    exact h1
set_option maxRecDepth 100000 in
set_option maxHeartbeats 4000000 in
theorem diskFlushes_some (w : World) (n : Nat) (A B : Option Addr) (c d : Nat) (acts : List ActV) (picks : List Int) (ha : CameD w A c acts) (hp : CameI w B d picks) (h1 : ¬ (40 : Int) < acts.length) (h2 : ¬ (60 : Int) < picks.length) (h3 : 2 ≤ n) (h4 : n ≤ 20) :
    Calls Try.prog 4 #[.int .i64 (n : Int), .slice A acts.length c, .slice B picks.length d] w fun e w' => e = .returned (.bool true) ∧ Keeps w w' [] := by
  have HA := Lib.hid (And.intro ha hp)
  have HN := Lib.hid (And.intro h3 h4)
  have h5 : ¬ (20 : Int) < n := by omega
  clear ha hp h3 h4
  go_enter Try.func4, Try.ntmps4
  go_wp2_with fail
  refine (dkNew_good w n (by have := HN.out; omega)).mono ?_
  rintro e w1 ⟨d0, rfl, hN⟩
  rw [Int.toNat_natCast] at hN
  have HP := Lib.hid (show FlAt w w1 d0 n (acts.take 0) from ⟨hN, ⟨_, DkRk.fresh n⟩, Nat.le_refl _⟩)
  clear hN
  obtain ⟨Z, hZ⟩ : ∃ Z, noTxts n = Z := ⟨_, rfl⟩
  have hmk := mk_txts (n := n)
  rw [hZ] at hmk
  have HMK := Lib.hid (show ∀ w : World, (Instr.makeSlice 40 (.int .i64 (n : Int)) (.int .i64 (n : Int))).run Try.prog w = .ok (.slice (some ⟨w.heap.size, 0, none⟩) n n) (w.alloc (.cells Z 9)) from fun w => hmk w (by have := HN.out; omega))
  have HZ := Lib.hid hZ
  clear hmk hZ
  go_wp2_with fail
  go_loopw [9] (fun i wr => ∃ k : Nat, k ≤ acts.length ∧ i = .int .i64 k ∧ Hid (FlAt w wr d0 n (acts.take k))) (fun i _ => acts.length - (intOf i).toNat)
  case atStart => exact ⟨0, by omega, rfl, HP⟩
  case round =>
    clear HP
    obtain ⟨k, hk, rfl, HR⟩ := hrel
    have hal := h1
    by_cases hkl : k < acts.length
    · obtain ⟨bl, ol, rfl, hbl, hcl⟩ := HA.out.1.lies (by omega)
      have hc := hcl k hkl
      obtain ⟨x, hx⟩ : ∃ x, acts[k] = x := ⟨_, rfl⟩
      rw [hx] at hc
      have hxo : x.ok := by rw [← hx]; exact HA.out.1.r _ (List.getElem_mem hkl)
      have HX := Lib.hid (show x.ok ∧ acts.take (k + 1) = acts.take k ++ [x] from ⟨hxo, by rw [List.take_succ_eq_append_getElem hkl, hx]⟩)
      have hkw := HR.out.dk.h
      have c0 := (hkw.cell (p := ⟨bl, ol + k * 4, none⟩) hbl (by simp)).trans hc.1
      by_cases hx3 : x.k = 3
      · have n3 : (x.k == 3) = true := by simpa using hx3
        have HS := Lib.hid (show FlAt w wr d0 n (acts.take (k + 1)) by rw [HX.out.2]; exact HR.out.still hx3)
        clear hx3 hx hxo hc hcl hkw
        go_wp2_with fail
        exact ⟨⟨k + 1, by omega, by go_num, HS⟩, by simp [intOf]; omega⟩
      · have n3 : (x.k == 3) = false := by simpa using hx3
        have H3 := Lib.hid hx3
        have MC0 := fun (W' : World) (hW : Keeps wr W' []) => ((hkw.then_ hW).cell (p := ⟨bl, ol + k * 4, none⟩) hbl (by simp)).trans hc.1
        have MC1 := fun (W' : World) (hW : Keeps wr W' []) => ((hkw.then_ hW).cell (p := ⟨bl, ol + k * 4 + 1, none⟩) hbl (by simp)).trans hc.2.1
        have MC2 := fun (W' : World) (hW : Keeps wr W' []) => ((hkw.then_ hW).cell (p := ⟨bl, ol + k * 4 + 2, none⟩) hbl (by simp)).trans hc.2.2.1
        have MC3 := fun (W' : World) (hW : Keeps wr W' []) => ((hkw.then_ hW).cell (p := ⟨bl, ol + k * 4 + 3, none⟩) hbl (by simp)).trans hc.2.2.2
        clear hx3 hx hxo hc hcl hkw
        go_wp2_with fail
        refine wp_region_tail KeepsAll _ 8 (by kernel_rfl) rfl (by kernel_rfl) (fun _ => Keeps.refl _ _) (fun _ _ _ h k => h.trans k (by simp)) (Keeps.drew _) ?_
        simp only [List.take_succ_cons, List.take_zero, List.drop_succ_cons, List.drop_zero]
        apply loose_is
        · intro W vals hW hkn
          clear hkn
          refine ⟨?_⟩
          simp only [fill]
          go_simp
          first | exact ⟨Keeps.refl _ _, rfl⟩ | exact ⟨Keeps.alloc _ _, rfl⟩
        simp only [addEnt]
        apply loose_is
        · intro W vals hW hkn
          clear hkn
          refine ⟨?_⟩
          simp only [fill]
          go_simp
          first | exact ⟨Keeps.refl _ _, rfl⟩ | exact ⟨Keeps.alloc _ _, rfl⟩
        simp only [addEnt]
        refine loose_has (fun v W' => ∃ b, v = .slice (some ⟨b, 0, none⟩) n n ∧ Row W' b 9 Z) (fun W vals hW hkn φ' hφ => ?_) ?_
        · simp only [knows] at hkn
          try simp only [and_true] at hkn
          clear hkn; have hmk := HMK.out W
          refine ⟨?_⟩
          simp only [fill]
          go_simp
          exact ⟨Keeps.alloc _ _, hφ.out _ _ ⟨_, rfl, Row.new _ _ _⟩⟩
        simp only [addEnt]
        refine loose_has (fun v W' => ∃ b, v = .agg #[.slice (some ⟨b, 0, none⟩) n n, .slice none 0 0, .int .i64 0, .int .i64 0, .bool false, .int .i64 0] ∧ Row W' b 9 Z) (fun W vals hW hkn φ' hφ => ?_) ?_
        · simp only [knows] at hkn
          try simp only [and_true] at hkn
          obtain ⟨W0, h0, h1, b, hv, hr⟩ := hkn (by decide); have HRW := Lib.hid (hr.keeps h1); clear hkn h0 h1 hr
          refine ⟨?_⟩
          simp only [fill]
          go_simp
          exact ⟨Keeps.refl _ _, hφ.out _ _ ⟨b, rfl, HRW.out⟩⟩
        simp only [addEnt]
        apply loose_is
        · intro W vals hW hkn
          clear hkn
          refine ⟨?_⟩
          simp only [fill]
          go_simp
          first | exact ⟨Keeps.refl _ _, rfl⟩ | exact ⟨Keeps.alloc _ _, rfl⟩
        simp only [addEnt]
        apply loose_is
        · intro W vals hW hkn
          clear hkn
          refine ⟨?_⟩
          simp only [fill]
          go_simp
          first | exact ⟨Keeps.refl _ _, rfl⟩ | exact ⟨Keeps.alloc _ _, rfl⟩
        simp only [addEnt]
        apply loose_is
        · intro W vals hW hkn
          clear hkn
          refine ⟨?_⟩
          simp only [fill]
          go_simp
          first | exact ⟨Keeps.refl _ _, rfl⟩ | exact ⟨Keeps.alloc _ _, rfl⟩
        simp only [addEnt]
        apply loose_is
        · intro W vals hW hkn
          clear hkn
          refine ⟨?_⟩
          simp only [fill]
          go_simp
          first | exact ⟨Keeps.refl _ _, rfl⟩ | exact ⟨Keeps.alloc _ _, rfl⟩
        simp only [addEnt]
        refine loose_nil (fun W vals hW hkn => ?_)
        simp only [knowsAll] at hkn
        try simp only [and_true] at hkn
        simp only [fill, Act.put, List.setIfInBounds_toArray, List.set_cons_succ, List.set_cons_zero]
        obtain ⟨⟨W3, g1, g2, b3, hv3, hr3⟩, -⟩ := hkn
        rw [hv3]
        have hr3' := hr3.keeps g2
        rw [← HZ.out] at hr3'
        have HB := Lib.hid (And.intro (HR.out.dk.keeps hW) (show RkAt W _ (Rk.bare n) from rkAt_bare hr3'))
        clear g1 g2 hr3 hr3' hv3 hW MC0 MC1 MC2 MC3
        go_wp2_with fail
        refine (does2_any (DkSense.one w d0) W _ HB.out.1 _ (Rk.bare n) HB.out.2 x HX.out.1 (by have := HR.out.wl; rw [List.length_take] at this; omega) (RkFit.bare (by have := HN.out; omega))).mono ?_
        intro e w5 hpo
        unfold DoesPost at hpo
        obtain ⟨g', rfl, -, hp', -⟩ := hpo
        have HS := Lib.hid (show FlAt w w5 d0 n (acts.take (k + 1)) by rw [HX.out.2]; exact HR.out.step H3.out hp')
        clear hp'
        go_wp2_with fail
        exact ⟨⟨k + 1, by omega, by go_num, HS⟩, by simp [intOf]; omega⟩
    · obtain rfl : k = acts.length := by omega
      have hE := HR.out.done
      rw [List.take_length] at hE
      obtain ⟨D, hD⟩ : ∃ D, calmRun (Dk.fresh n) acts = D := ⟨_, rfl⟩
      rw [hD] at hE
      have HE := Lib.hid hE
      clear hE hD HR HMK
      obtain ⟨mb, hmb⟩ : ∃ mb, wr.heap.size = mb := ⟨_, rfl⟩
      have HP2 := Lib.hid (show FlCnt wr (wr.alloc (.map #[] 0)) mb n (acts.drop acts.length) from by
        refine ⟨Keeps.alloc _ _, ?_, by omega, by simp⟩
        rw [List.drop_length, ← hmb]
        show CMap _ _ (cntF [])
        rw [← cntF_nil]
        exact IMap.made _ _ _)
      have hmm := @run_makeMap Try.prog
      have hwl : IntKind.i64.wrap ((acts.length : Int) - 1) = (acts.length : Int) - 1 := IntWalk.i64_in _ (by omega)
      go_wp2_with fail
      clear hmb hwl hmm
      obtain ⟨W1, rfl⟩ : ∃ x, x = wr := ⟨_, rfl⟩
      go_loopw [11] (fun i wr => ∃ (m : Nat) (z : Int), m ≤ acts.length ∧ z = (m : Int) - 1 ∧ i = .int .i64 z ∧ Hid (FlCnt W1 wr mb n (acts.drop m))) (fun i _ => (intOf i + 1).toNat)
      case atStart => exact ⟨acts.length, _, by omega, rfl, rfl, HP2⟩
      case round =>
        clear HP2
        obtain ⟨m, z, hm, hz, rfl, HR⟩ := hrel
        cases m with
        | zero =>
          obtain rfl : z = -1 := by omega
          obtain ⟨ws, hws⟩ : ∃ ws, (acts.drop 0).flatMap (newW n) = ws := ⟨_, rfl⟩
          have HWS := Lib.hid (show D.waits = ws by rw [← hws]; exact HE.out.tl 0 (by omega) HR.out.two (.inl rfl))
          have HMM := Lib.hid (show FlMap W1 wr mb ws by rw [← hws]; exact ⟨HR.out.k, HR.out.m, HR.out.b⟩)
          have HMB := Lib.hid (show mb < wr.heap.size from HR.out.m.lt)
          clear HR hws hz
          go_wp2_with fail
          have HM0 := Lib.hid (show FlMap W1 wr mb ws from HMM.out)
          obtain ⟨W2, rfl⟩ : ∃ x, x = wr := ⟨_, rfl⟩
          go_loopw [12, 13] (fun a i wr => ∃ (k : Nat) (L : List Int) (A : Option Addr) (c : Nat), k ≤ n ∧ a = .slice A L.length c ∧ i = .int .i64 k ∧ Hid (L = lastPicks ws k ∧ FlMap W1 wr mb ws ∧ OwnN wr W2.heap.size 3 1 intE (.slice A L.length c) L ∧ Keeps W2 wr [])) (fun _ i _ => n - (intOf i).toNat)
          case atStart => exact ⟨0, [], none, 0, by omega, rfl, rfl, Lib.hid ⟨rfl, HM0.out, OwnN.nil _ _ _ _ _, Keeps.refl _ _⟩⟩
          case round =>
            clear HM0 HMM
            obtain ⟨k, L, A, c, hk, rfl, rfl, HR⟩ := hrel
            have hn20 := HN.out.2
            by_cases hkn : k < n
            · obtain ⟨cc, hcc⟩ : ∃ cc, (pagesOf ws (k : Int)).length = cc := ⟨_, rfl⟩
              have HC := Lib.hid hcc
              clear hcc
              go_wp2_with fail
              obtain ⟨W3, rfl⟩ : ∃ x, x = wr := ⟨_, rfl⟩
              go_loopw [12, 14] (fun a i wr => ∃ (s : Nat) (M : List Int) (A : Option Addr) (c : Nat), s ≤ 4 ∧ a = .slice A M.length c ∧ i = .int .i64 s ∧ Hid (M = lastPicks ws k ++ (if cc = 0 then [] else List.replicate s (cc : Int)) ∧ FlMap W1 wr mb ws ∧ OwnN wr W2.heap.size 3 1 intE (.slice A M.length c) M ∧ Keeps W2 wr [])) (fun _ i _ => 4 - (intOf i).toNat)
              case atStart => exact ⟨0, L, A, c, by omega, rfl, rfl, Lib.hid ⟨by rw [HR.out.1]; split <;> simp, HR.out.2⟩⟩
              case round =>
                clear HR
                obtain ⟨s, M, A, c, hs, rfl, rfl, HR⟩ := hrel
                have hlk := HR.out.2.1.look (x := (k : Int)) (by omega) (by omega)
                rw [HC.out] at hlk
                by_cases hs4 : s < 4
                · by_cases hc0 : cc = 0
                  · subst hc0
                    have HL1 := Lib.hid (show M = lastPicks ws (k + 1) by
                      rw [lastPicks_succ, if_pos (List.length_eq_zero_iff.1 HC.out)]
                      have := HR.out.1
                      rwa [if_pos rfl] at this)
                    go_wp2_with fail
                    refine ⟨?_, by simp [intOf]; omega⟩
                    first | exact ⟨k + 1, M, A, c, by omega, rfl, by go_num, Lib.hid ⟨HL1.out, HR.out.2⟩⟩ | exact ⟨k + 1, by omega, M, A, c, ⟨rfl, rfl, rfl⟩, by omega, Lib.hid ⟨HL1.out, HR.out.2⟩⟩
                  · have hcp : (0 : Int) < (cc : Int) := by omega
                    obtain ⟨Wa, hWa⟩ : ∃ Wa, wr.alloc (.cells #[.int .i64 (cc : Int)] 3) = Wa := ⟨_, rfl⟩
                    have ra : Row Wa wr.heap.size 3 #[.int .i64 (cc : Int)] := by rw [← hWa]; exact Row.new _ _ _
                    have ka : Keeps wr Wa [] := by rw [← hWa]; exact Keeps.alloc _ _
                    have hLa : Lies Wa Wa.heap.size (some ⟨wr.heap.size, 0, none⟩) ([(cc : Int)].flatMap intE) := lies_of_row ra rfl
                    have HLa := Lib.hid hLa
                    have HA := Lib.hid (And.intro (HR.out.2.1.keep ka (by simp)) (And.intro (OwnN.keeps HR.out.2.2.1 ka) (HR.out.2.2.2.then_ ka)))
                    have HM4 := Lib.hid (show M.length ≤ 84 from by
                      rw [HR.out.1, List.length_append]
                      have := lastPicks_len ws k
                      split <;> simp <;> omega)
                    clear ra ka hLa
                    go_wp2_with (at_builtin; refine wpList_append_N elemInt encInt rfl (.tmp 140) (.tmp 144) rfl W2.heap.size (.slice A M.length c) (some ⟨wr.heap.size, 0, none⟩) 1 1 M [(cc : Int)] rfl rfl rfl HA.out.2.1 HLa.out (by have := HM4.out; simp; omega) HA.out.2.2.size ?_; intro A5 c5 w5 l5 hl5 hlen5 ho5 hk5 _; have hfar : ∀ g ∈ (Value.slice A M.length c).ownBlock.toList, W2.heap.size ≤ g := (fun g hg => (OwnN.rows HA.out.2.1 g hg).1); have H5 := Lib.hid (And.intro hl5.out (And.intro (HA.out.1.keep hk5 (fun g hg => by have := hfar g hg; have := HMB.out; have := HA.out.1.b; omega)) (And.intro ho5 (HA.out.2.2.trans hk5 (fun y hy hlt => absurd (hfar y hy) (by omega)))))); clear hl5 ho5 hk5 hfar hlen5)
                    have H6 := Lib.hid (show l5 = lastPicks ws k ++ (if cc = 0 then [] else List.replicate (s + 1) (cc : Int)) by rw [H5.out.1, HR.out.1, if_neg hc0, if_neg hc0, List.replicate_succ', List.append_assoc])
                    refine ⟨?_, by simp [intOf]; omega⟩
                    first | exact ⟨s + 1, l5, A5, c5, by omega, rfl, by go_num, Lib.hid ⟨H6.out, H5.out.2⟩⟩ | exact ⟨s + 1, by omega, l5, A5, c5, ⟨rfl, rfl, rfl⟩, by omega, Lib.hid ⟨H6.out.trans (by rw [if_neg hc0]), H5.out.2⟩⟩
                · obtain rfl : s = 4 := by omega
                  have HL1 := Lib.hid (show M = lastPicks ws (k + 1) by
                    rw [lastPicks_succ, HR.out.1]
                    by_cases hp : pagesOf ws (k : Int) = []
                    · have h0 : cc = 0 := by
                        have := HC.out
                        rw [hp] at this
                        exact this.symm
                      rw [if_pos hp, if_pos h0]
                    · have h0 : cc ≠ 0 := fun e => hp (List.length_eq_zero_iff.1 (HC.out.trans e))
                      rw [if_neg hp, if_neg h0, HC.out])
                  go_wp2_with fail
                  refine ⟨?_, by simp [intOf]; omega⟩
                  first | exact ⟨k + 1, M, A, c, by omega, rfl, by go_num, Lib.hid ⟨HL1.out, HR.out.2⟩⟩ | exact ⟨k + 1, by omega, M, A, c, ⟨rfl, rfl, rfl⟩, by omega, Lib.hid ⟨HL1.out, HR.out.2⟩⟩
            · obtain rfl : k = n := by omega
              have HD2 := Lib.hid (show DkIn w wr d0 D from HE.out.dk.keeps HR.out.2.1.k)
              have hlL : Lies wr wr.heap.size A (L.map encZ) := by
                have := (OwnN.at_ HR.out.2.2.1 encInt).lies encInt
                rwa [intE_map] at this
              have HLL := Lib.hid (And.intro hlL (show L.length ≤ c from own_le HR.out.2.2.1))
              have HLP := Lib.hid HR.out.1
              clear hlL
              go_wp2_with fail
              refine (dkCrash_dk HD2.out (by have := HE.out.wl; omega) A c L HLL.out.1 HLL.out.2).mono ?_
              rintro e w4 ⟨c0, rfl, hc0⟩
              have HC0 := Lib.hid (And.intro (HD2.out.keeps hc0.h) hc0)
              clear hc0
              go_wp2_with fail
              refine (dkCopy_dk HC0.out.1).mono ?_
              rintro e w5 ⟨o0, rfl, ho0⟩
              have HO := Lib.hid ho0
              clear ho0
              obtain ⟨D', hD1, hD2, hD3, hD4⟩ := HE.out.cal.flush
              have HDD := Lib.hid (show D'.waits = [] ∧ D'.lasts = D.now ∧ D'.pages = D.pages from ⟨hD2, hD3, hD4⟩)
              have HDF := Lib.hid hD1
              clear hD1 hD2 hD3 hD4
              go_wp2_with fail
              refine (dkFlush_now HO.out HDF.out rfl).mono ?_
              rintro e w6 ⟨rfl, h6, -⟩
              have H6 := Lib.hid h6
              clear h6
              go_wp2_with fail
              refine (dkCrash_dk H6.out (by rw [HDD.out.1]; simp) B d picks (HA.out.2.lies.keep (HD2.out.h.trans (HC0.out.2.h.trans H6.out.h (by simp)) (by simp)) (Nat.le_refl _) (by simp) |>.mono (HD2.out.h.trans (HC0.out.2.h.trans H6.out.h (by simp)) (by simp)).size) HA.out.2.le).mono ?_
              rintro e w7 ⟨x0, rfl, hx0⟩
              have H7 := Lib.hid (show DkIn w w7 d0 D ∧ DkIn wr w7 c0 (D.crash L) ∧ DkIn w6 w7 x0 (D'.crash picks) from ⟨(HC0.out.1.keeps H6.out.h).keeps hx0.h, (HC0.out.2.keeps H6.out.h).keeps hx0.h, hx0⟩)
              have HPG := Lib.hid (show ∀ x, (D.crash L).page x = D.page x ∧ (D'.crash picks).page x = D.page x from fun x => by
                obtain ⟨R, hR⟩ := HE.out.rel
                have h1 := crash_last HE.out.dk.ok hR.pg x
                rw [HE.out.pg, HWS.out, ← HLP.out] at h1
                refine ⟨h1, ?_⟩
                rw [crash_still HDD.out.1]
                show (D'.lasts x).getD nought = _
                rw [HDD.out.2.1]
                rfl)
              have HPN := Lib.hid (show D.pages = k ∧ (D.crash L).pages = k ∧ (D'.crash picks).pages = k from ⟨HE.out.pg, HE.out.pg, HDD.out.2.2.trans HE.out.pg⟩)
              clear hx0 HC0 HO H6 HR HLL HLP HDF
              go_wp2_with fail
              go_loopw [20] (fun i wr => ∃ p : Nat, p ≤ k ∧ i = .int .i64 p ∧ Hid (Keeps w7 wr [])) (fun i _ => k - (intOf i).toNat)
              case atStart => exact ⟨0, by omega, rfl, Lib.hid (Keeps.refl _ _)⟩
              case round =>
                obtain ⟨p, hp, rfl, HK⟩ := hrel
                by_cases hpk : p < k
                · go_wp2_with fail
                  refine (dkRead_dk (H7.out.1.keeps HK.out) (p : Int)).mono ?_
                  rintro e v1 ⟨hk1, hv⟩
                  rw [if_pos (by rw [HPN.out.1]; omega)] at hv
                  obtain ⟨va, rfl, hOa⟩ := hv
                  obtain ⟨Aa, ca, rfl, -, -, -, hLa⟩ := hOa.parts
                  have HL1 := Lib.hid hLa
                  have hla := Dk.page_length HE.out.dk.ok (p : Int)
                  rw [hla]
                  have HK1 := Lib.hid (HK.out.then_ hk1)
                  clear hOa hLa hk1 hla
                  go_wp2_with fail
                  refine (dkRead_dk (H7.out.2.1.keeps HK1.out) (p : Int)).mono ?_
                  rintro e v2 ⟨hk2, hv⟩
                  rw [if_pos (by rw [HPN.out.2.1]; omega)] at hv
                  obtain ⟨vb, rfl, hOb⟩ := hv
                  rw [(HPG.out _).1] at hOb
                  obtain ⟨Ab, cb, rfl, -, -, -, hLb⟩ := hOb.parts
                  have HL2 := Lib.hid (And.intro (HL1.out.keep hk2 (Nat.le_refl _) (by simp) |>.mono hk2.size) hLb)
                  have hla := Dk.page_length HE.out.dk.ok (p : Int)
                  rw [hla]
                  have HK2 := Lib.hid (HK1.out.then_ hk2)
                  clear hOb hLb hk2 hla
                  go_wp2_with fail
                  refine (dkRead_dk (H7.out.2.2.keeps HK2.out) (p : Int)).mono ?_
                  rintro e v3 ⟨hk3, hv⟩
                  rw [if_pos (by rw [HPN.out.2.2]; omega)] at hv
                  obtain ⟨vy, rfl, hOy⟩ := hv
                  rw [(HPG.out _).2] at hOy
                  obtain ⟨Ay, cy, rfl, -, -, -, hLy⟩ := hOy.parts
                  have HL3 := Lib.hid (And.intro (HL2.out.1.keep hk3 (Nat.le_refl _) (by simp) |>.mono hk3.size) (And.intro (HL2.out.2.keep hk3 (Nat.le_refl _) (by simp) |>.mono hk3.size) hLy))
                  have hla := Dk.page_length HE.out.dk.ok (p : Int)
                  obtain ⟨S, hS⟩ : ∃ S : ByteArray, S = ⟨(D.page (p : Int)).toArray⟩ := ⟨_, rfl⟩
                  have cv1 := conv_str v3 _ Aa ca _ HL3.out.1
                  have cv2 := conv_str v3 _ Ab cb _ HL3.out.2.1
                  have cv3 := conv_str v3 _ Ay cy _ HL3.out.2.2
                  rw [hla, ← hS] at cv1 cv2 cv3
                  rw [hla]
                  have HK3 := Lib.hid (HK2.out.then_ hk3)
                  clear hOy hLy hk3 hla hS
                  go_wp2_with fail
                  exact ⟨⟨p + 1, by omega, by go_num, HK3⟩, by simp [intOf]; omega⟩
                · obtain rfl : p = k := by omega
                  go_wp2_with fail
                  refine (known2_go (H7.out.1.h.then_ HK.out)).mono ?_
                  rintro e w' ⟨rfl, hk⟩
                  have HK := Lib.hid hk
                  clear hk
                  go_wp2_with fail
                  go_ret
                  exact ⟨rfl, HK.out⟩
        | succ j =>
          obtain rfl : z = (j : Int) := by omega
          have hjl : j < acts.length := by omega
          obtain ⟨bl, ol, rfl, hbl, hcl⟩ := HA.out.1.lies (by omega)
          have hc := hcl j hjl
          obtain ⟨x, hx⟩ : ∃ x, acts[j] = x := ⟨_, rfl⟩
          rw [hx] at hc
          have hxo : x.ok := by rw [← hx]; exact HA.out.1.r _ (List.getElem_mem hjl)
          have hkw := HE.out.dk.h.then_ HR.out.k
          have c0 := (hkw.cell (p := ⟨bl, ol + j * 4, none⟩) hbl (by simp)).trans hc.1
          have c1 := (hkw.cell (p := ⟨bl, ol + j * 4 + 1, none⟩) hbl (by simp)).trans hc.2.1
          have c2 := (hkw.cell (p := ⟨bl, ol + j * 4 + 2, none⟩) hbl (by simp)).trans hc.2.2.1
          have c3 := (hkw.cell (p := ⟨bl, ol + j * 4 + 3, none⟩) hbl (by simp)).trans hc.2.2.2
          have HX := Lib.hid (show x.ok ∧ acts.drop j = x :: acts.drop (j + 1) from ⟨hxo, by rw [List.drop_eq_getElem_cons hjl, hx]⟩)
          have HJ := Lib.hid (show acts[j] = x from hx)
          have hwj : IntKind.i64.wrap ((j : Int) - 1) = (j : Int) - 1 := IntWalk.i64_in _ (by omega)
          clear hx hxo hc hcl hkw hz
          by_cases hx2 : x.k = 2
          · have n2 : (x.k == 2) = true := by simpa using hx2
            obtain ⟨ws, hws⟩ : ∃ ws, (acts.drop (j + 1)).flatMap (newW n) = ws := ⟨_, rfl⟩
            have HWS := Lib.hid (show D.waits = ws by rw [← hws]; exact HE.out.tl (j + 1) (by omega) HR.out.two (.inr ⟨hjl, by show acts[j].k = 2; rw [HJ.out]; exact hx2⟩))
            have HMM := Lib.hid (show FlMap W1 wr mb ws by rw [← hws]; exact ⟨HR.out.k, HR.out.m, HR.out.b⟩)
            have HMB := Lib.hid (show mb < wr.heap.size from HR.out.m.lt)
            clear HR hws hx2
            go_wp2_with fail
            have HM0 := Lib.hid (show FlMap W1 wr mb ws from HMM.out)
            obtain ⟨W2, rfl⟩ : ∃ x, x = wr := ⟨_, rfl⟩
            go_loopw [12, 13] (fun a i wr => ∃ (k : Nat) (L : List Int) (A : Option Addr) (c : Nat), k ≤ n ∧ a = .slice A L.length c ∧ i = .int .i64 k ∧ Hid (L = lastPicks ws k ∧ FlMap W1 wr mb ws ∧ OwnN wr W2.heap.size 3 1 intE (.slice A L.length c) L ∧ Keeps W2 wr [])) (fun _ i _ => n - (intOf i).toNat)
            case atStart => exact ⟨0, [], none, 0, by omega, rfl, rfl, Lib.hid ⟨rfl, HM0.out, OwnN.nil _ _ _ _ _, Keeps.refl _ _⟩⟩
            case round =>
              clear HM0 HMM
              obtain ⟨k, L, A, c, hk, rfl, rfl, HR⟩ := hrel
              have hn20 := HN.out.2
              by_cases hkn : k < n
              · obtain ⟨cc, hcc⟩ : ∃ cc, (pagesOf ws (k : Int)).length = cc := ⟨_, rfl⟩
                have HC := Lib.hid hcc
                clear hcc
                go_wp2_with fail
                obtain ⟨W3, rfl⟩ : ∃ x, x = wr := ⟨_, rfl⟩
                go_loopw [12, 14] (fun a i wr => ∃ (s : Nat) (M : List Int) (A : Option Addr) (c : Nat), s ≤ 4 ∧ a = .slice A M.length c ∧ i = .int .i64 s ∧ Hid (M = lastPicks ws k ++ (if cc = 0 then [] else List.replicate s (cc : Int)) ∧ FlMap W1 wr mb ws ∧ OwnN wr W2.heap.size 3 1 intE (.slice A M.length c) M ∧ Keeps W2 wr [])) (fun _ i _ => 4 - (intOf i).toNat)
                case atStart => exact ⟨0, L, A, c, by omega, rfl, rfl, Lib.hid ⟨by rw [HR.out.1]; split <;> simp, HR.out.2⟩⟩
                case round =>
                  clear HR
                  obtain ⟨s, M, A, c, hs, rfl, rfl, HR⟩ := hrel
                  have hlk := HR.out.2.1.look (x := (k : Int)) (by omega) (by omega)
                  rw [HC.out] at hlk
                  by_cases hs4 : s < 4
                  · by_cases hc0 : cc = 0
                    · subst hc0
                      have HL1 := Lib.hid (show M = lastPicks ws (k + 1) by
                        rw [lastPicks_succ, if_pos (List.length_eq_zero_iff.1 HC.out)]
                        have := HR.out.1
                        rwa [if_pos rfl] at this)
                      go_wp2_with fail
                      refine ⟨?_, by simp [intOf]; omega⟩
                      first | exact ⟨k + 1, M, A, c, by omega, rfl, by go_num, Lib.hid ⟨HL1.out, HR.out.2⟩⟩ | exact ⟨k + 1, by omega, M, A, c, ⟨rfl, rfl, rfl⟩, by omega, Lib.hid ⟨HL1.out, HR.out.2⟩⟩
                    · have hcp : (0 : Int) < (cc : Int) := by omega
                      obtain ⟨Wa, hWa⟩ : ∃ Wa, wr.alloc (.cells #[.int .i64 (cc : Int)] 3) = Wa := ⟨_, rfl⟩
                      have ra : Row Wa wr.heap.size 3 #[.int .i64 (cc : Int)] := by rw [← hWa]; exact Row.new _ _ _
                      have ka : Keeps wr Wa [] := by rw [← hWa]; exact Keeps.alloc _ _
                      have hLa : Lies Wa Wa.heap.size (some ⟨wr.heap.size, 0, none⟩) ([(cc : Int)].flatMap intE) := lies_of_row ra rfl
                      have HLa := Lib.hid hLa
                      have HA := Lib.hid (And.intro (HR.out.2.1.keep ka (by simp)) (And.intro (OwnN.keeps HR.out.2.2.1 ka) (HR.out.2.2.2.then_ ka)))
                      have HM4 := Lib.hid (show M.length ≤ 84 from by
                        rw [HR.out.1, List.length_append]
                        have := lastPicks_len ws k
                        split <;> simp <;> omega)
                      clear ra ka hLa
                      go_wp2_with (at_builtin; refine wpList_append_N elemInt encInt rfl (.tmp 140) (.tmp 144) rfl W2.heap.size (.slice A M.length c) (some ⟨wr.heap.size, 0, none⟩) 1 1 M [(cc : Int)] rfl rfl rfl HA.out.2.1 HLa.out (by have := HM4.out; simp; omega) HA.out.2.2.size ?_; intro A5 c5 w5 l5 hl5 hlen5 ho5 hk5 _; have hfar : ∀ g ∈ (Value.slice A M.length c).ownBlock.toList, W2.heap.size ≤ g := (fun g hg => (OwnN.rows HA.out.2.1 g hg).1); have H5 := Lib.hid (And.intro hl5.out (And.intro (HA.out.1.keep hk5 (fun g hg => by have := hfar g hg; have := HMB.out; have := HA.out.1.b; omega)) (And.intro ho5 (HA.out.2.2.trans hk5 (fun y hy hlt => absurd (hfar y hy) (by omega)))))); clear hl5 ho5 hk5 hfar hlen5)
                      have H6 := Lib.hid (show l5 = lastPicks ws k ++ (if cc = 0 then [] else List.replicate (s + 1) (cc : Int)) by rw [H5.out.1, HR.out.1, if_neg hc0, if_neg hc0, List.replicate_succ', List.append_assoc])
                      refine ⟨?_, by simp [intOf]; omega⟩
                      first | exact ⟨s + 1, l5, A5, c5, by omega, rfl, by go_num, Lib.hid ⟨H6.out, H5.out.2⟩⟩ | exact ⟨s + 1, by omega, l5, A5, c5, ⟨rfl, rfl, rfl⟩, by omega, Lib.hid ⟨H6.out.trans (by rw [if_neg hc0]), H5.out.2⟩⟩
                  · obtain rfl : s = 4 := by omega
                    have HL1 := Lib.hid (show M = lastPicks ws (k + 1) by
                      rw [lastPicks_succ, HR.out.1]
                      by_cases hp : pagesOf ws (k : Int) = []
                      · have h0 : cc = 0 := by
                          have := HC.out
                          rw [hp] at this
                          exact this.symm
                        rw [if_pos hp, if_pos h0]
                      · have h0 : cc ≠ 0 := fun e => hp (List.length_eq_zero_iff.1 (HC.out.trans e))
                        rw [if_neg hp, if_neg h0, HC.out])
                    go_wp2_with fail
                    refine ⟨?_, by simp [intOf]; omega⟩
                    first | exact ⟨k + 1, M, A, c, by omega, rfl, by go_num, Lib.hid ⟨HL1.out, HR.out.2⟩⟩ | exact ⟨k + 1, by omega, M, A, c, ⟨rfl, rfl, rfl⟩, by omega, Lib.hid ⟨HL1.out, HR.out.2⟩⟩
              · obtain rfl : k = n := by omega
                have HD2 := Lib.hid (show DkIn w wr d0 D from HE.out.dk.keeps HR.out.2.1.k)
                have hlL : Lies wr wr.heap.size A (L.map encZ) := by
                  have := (OwnN.at_ HR.out.2.2.1 encInt).lies encInt
                  rwa [intE_map] at this
                have HLL := Lib.hid (And.intro hlL (show L.length ≤ c from own_le HR.out.2.2.1))
                have HLP := Lib.hid HR.out.1
                clear hlL
                go_wp2_with fail
                refine (dkCrash_dk HD2.out (by have := HE.out.wl; omega) A c L HLL.out.1 HLL.out.2).mono ?_
                rintro e w4 ⟨c0, rfl, hc0⟩
                have HC0 := Lib.hid (And.intro (HD2.out.keeps hc0.h) hc0)
                clear hc0
                go_wp2_with fail
                refine (dkCopy_dk HC0.out.1).mono ?_
                rintro e w5 ⟨o0, rfl, ho0⟩
                have HO := Lib.hid ho0
                clear ho0
                obtain ⟨D', hD1, hD2, hD3, hD4⟩ := HE.out.cal.flush
                have HDD := Lib.hid (show D'.waits = [] ∧ D'.lasts = D.now ∧ D'.pages = D.pages from ⟨hD2, hD3, hD4⟩)
                have HDF := Lib.hid hD1
                clear hD1 hD2 hD3 hD4
                go_wp2_with fail
                refine (dkFlush_now HO.out HDF.out rfl).mono ?_
                rintro e w6 ⟨rfl, h6, -⟩
                have H6 := Lib.hid h6
                clear h6
                go_wp2_with fail
                refine (dkCrash_dk H6.out (by rw [HDD.out.1]; simp) B d picks (HA.out.2.lies.keep (HD2.out.h.trans (HC0.out.2.h.trans H6.out.h (by simp)) (by simp)) (Nat.le_refl _) (by simp) |>.mono (HD2.out.h.trans (HC0.out.2.h.trans H6.out.h (by simp)) (by simp)).size) HA.out.2.le).mono ?_
                rintro e w7 ⟨x0, rfl, hx0⟩
                have H7 := Lib.hid (show DkIn w w7 d0 D ∧ DkIn wr w7 c0 (D.crash L) ∧ DkIn w6 w7 x0 (D'.crash picks) from ⟨(HC0.out.1.keeps H6.out.h).keeps hx0.h, (HC0.out.2.keeps H6.out.h).keeps hx0.h, hx0⟩)
                have HPG := Lib.hid (show ∀ x, (D.crash L).page x = D.page x ∧ (D'.crash picks).page x = D.page x from fun x => by
                  obtain ⟨R, hR⟩ := HE.out.rel
                  have h1 := crash_last HE.out.dk.ok hR.pg x
                  rw [HE.out.pg, HWS.out, ← HLP.out] at h1
                  refine ⟨h1, ?_⟩
                  rw [crash_still HDD.out.1]
                  show (D'.lasts x).getD nought = _
                  rw [HDD.out.2.1]
                  rfl)
                have HPN := Lib.hid (show D.pages = k ∧ (D.crash L).pages = k ∧ (D'.crash picks).pages = k from ⟨HE.out.pg, HE.out.pg, HDD.out.2.2.trans HE.out.pg⟩)
                clear hx0 HC0 HO H6 HR HLL HLP HDF
                go_wp2_with fail
                go_loopw [20] (fun i wr => ∃ p : Nat, p ≤ k ∧ i = .int .i64 p ∧ Hid (Keeps w7 wr [])) (fun i _ => k - (intOf i).toNat)
                case atStart => exact ⟨0, by omega, rfl, Lib.hid (Keeps.refl _ _)⟩
                case round =>
                  obtain ⟨p, hp, rfl, HK⟩ := hrel
                  by_cases hpk : p < k
                  · go_wp2_with fail
                    refine (dkRead_dk (H7.out.1.keeps HK.out) (p : Int)).mono ?_
                    rintro e v1 ⟨hk1, hv⟩
                    rw [if_pos (by rw [HPN.out.1]; omega)] at hv
                    obtain ⟨va, rfl, hOa⟩ := hv
                    obtain ⟨Aa, ca, rfl, -, -, -, hLa⟩ := hOa.parts
                    have HL1 := Lib.hid hLa
                    have hla := Dk.page_length HE.out.dk.ok (p : Int)
                    rw [hla]
                    have HK1 := Lib.hid (HK.out.then_ hk1)
                    clear hOa hLa hk1 hla
                    go_wp2_with fail
                    refine (dkRead_dk (H7.out.2.1.keeps HK1.out) (p : Int)).mono ?_
                    rintro e v2 ⟨hk2, hv⟩
                    rw [if_pos (by rw [HPN.out.2.1]; omega)] at hv
                    obtain ⟨vb, rfl, hOb⟩ := hv
                    rw [(HPG.out _).1] at hOb
                    obtain ⟨Ab, cb, rfl, -, -, -, hLb⟩ := hOb.parts
                    have HL2 := Lib.hid (And.intro (HL1.out.keep hk2 (Nat.le_refl _) (by simp) |>.mono hk2.size) hLb)
                    have hla := Dk.page_length HE.out.dk.ok (p : Int)
                    rw [hla]
                    have HK2 := Lib.hid (HK1.out.then_ hk2)
                    clear hOb hLb hk2 hla
                    go_wp2_with fail
                    refine (dkRead_dk (H7.out.2.2.keeps HK2.out) (p : Int)).mono ?_
                    rintro e v3 ⟨hk3, hv⟩
                    rw [if_pos (by rw [HPN.out.2.2]; omega)] at hv
                    obtain ⟨vy, rfl, hOy⟩ := hv
                    rw [(HPG.out _).2] at hOy
                    obtain ⟨Ay, cy, rfl, -, -, -, hLy⟩ := hOy.parts
                    have HL3 := Lib.hid (And.intro (HL2.out.1.keep hk3 (Nat.le_refl _) (by simp) |>.mono hk3.size) (And.intro (HL2.out.2.keep hk3 (Nat.le_refl _) (by simp) |>.mono hk3.size) hLy))
                    have hla := Dk.page_length HE.out.dk.ok (p : Int)
                    obtain ⟨S, hS⟩ : ∃ S : ByteArray, S = ⟨(D.page (p : Int)).toArray⟩ := ⟨_, rfl⟩
                    have cv1 := conv_str v3 _ Aa ca _ HL3.out.1
                    have cv2 := conv_str v3 _ Ab cb _ HL3.out.2.1
                    have cv3 := conv_str v3 _ Ay cy _ HL3.out.2.2
                    rw [hla, ← hS] at cv1 cv2 cv3
                    rw [hla]
                    have HK3 := Lib.hid (HK2.out.then_ hk3)
                    clear hOy hLy hk3 hla hS
                    go_wp2_with fail
                    exact ⟨⟨p + 1, by omega, by go_num, HK3⟩, by simp [intOf]; omega⟩
                  · obtain rfl : p = k := by omega
                    go_wp2_with fail
                    refine (known2_go (H7.out.1.h.then_ HK.out)).mono ?_
                    rintro e w' ⟨rfl, hk⟩
                    have HK := Lib.hid hk
                    clear hk
                    go_wp2_with fail
                    go_ret
                    exact ⟨rfl, HK.out⟩
          · have n2 : (x.k == 2) = false := by simpa using hx2
            have HX2 := Lib.hid hx2
            clear hx2
            by_cases q1 : x.k = 1
            · have n1 : (x.k == 1) = true := by simpa using q1
              by_cases q2 : 0 ≤ x.page
              · by_cases q3 : x.page < n
                · have HB := Lib.hid (show ∀ W, Calls Try.prog 18 #[actV x] W (ActPost W x.page x.byte) from fun W => bytes_any W x.k x.page x.arm x.byte HX.out.1)
                  have HQ := Lib.hid q1
                  obtain ⟨N, hN⟩ : ∃ N, (actBytes x.page x.byte).length = N := ⟨_, rfl⟩
                  have HNN := Lib.hid hN
                  clear hN q1
                  go_wp2_with fail
                  refine (HB.out wr).mono ?_
                  intro e w5 hpo
                  unfold ActPost at hpo
                  obtain ⟨b, q, rfl, hq, hb, hr, hk5⟩ := hpo
                  rw [HNN.out] at hq
                  subst hq
                  have HR5 := Lib.hid (HR.out.keep hk5)
                  have hkw := HE.out.dk.h.then_ HR5.out.k
                  have x0 := ((HE.out.dk.h.then_ HR.out.k).cell (p := ⟨bl, ol + j * 4 + 1, none⟩) hbl (by simp)).symm.trans c1
                  have d1 := (hkw.cell (p := ⟨bl, ol + j * 4 + 1, none⟩) hbl (by simp)).trans x0
                  clear x0 hkw hk5 hr hb c0 c1 c2 c3
                  by_cases q4 : q = 256
                  · subst q4
                    have hlk := HR5.out.look (x := x.page) (by omega) (by omega)
                    obtain ⟨w6, hrun, h6⟩ := HR5.out.add (x := x) HX2.out ⟨HQ.out, q2, q3, HNN.out⟩ HN.out.2
                    obtain ⟨cc, hcc⟩ : ∃ cc, (pagesOf ((acts.drop (j + 1)).flatMap (newW n)) x.page).length = cc := ⟨_, rfl⟩
                    rw [hcc] at hlk hrun
                    have hcl : cc ≤ 40 := by
                      have := pagesOf_len ((acts.drop (j + 1)).flatMap (newW n)) x.page
                      have := newW_len (n := n) (acts.drop (j + 1))
                      rw [List.length_drop] at this
                      omega
                    rw [show ((cc + 1 : Nat) : Int) = (cc : Int) + 1 from rfl] at hrun
                    have hwc : IntKind.i64.wrap ((cc : Int) + 1) = (cc : Int) + 1 := IntWalk.i64_in _ (by omega)
                    have H6 := Lib.hid (show FlCnt W1 w6 mb n (acts.drop j) by rw [HX.out.2]; exact h6)
                    clear hcc h6 hcl
                    go_wp2_with fail
                    exact ⟨⟨j, _, by omega, rfl, rfl, H6⟩, by first | (simp [intOf]; done) | (simp [intOf]; omega)⟩
                  · have e4 : ((q : Int) == 256) = false := by simp; omega
                    have H6 := Lib.hid (show FlCnt W1 w5 mb n (acts.drop j) by rw [HX.out.2]; exact HR5.out.skip HX2.out (fun h => q4 (HNN.out.symm.trans h.2.2.2)))
                    go_wp2_with fail
                    exact ⟨⟨j, _, by omega, rfl, rfl, H6⟩, by first | (simp [intOf]; done) | (simp [intOf]; omega)⟩
                · have H6 := Lib.hid (show FlCnt W1 wr mb n (acts.drop j) by rw [HX.out.2]; exact HR.out.skip HX2.out (fun h => q3 h.2.2.1))
                  clear q1
                  go_wp2_with fail
                  exact ⟨⟨j, _, by omega, rfl, rfl, H6⟩, by first | (simp [intOf]; done) | (simp [intOf]; omega)⟩
              · have H6 := Lib.hid (show FlCnt W1 wr mb n (acts.drop j) by rw [HX.out.2]; exact HR.out.skip HX2.out (fun h => q2 h.2.1))
                clear q1
                go_wp2_with fail
                exact ⟨⟨j, _, by omega, rfl, rfl, H6⟩, by first | (simp [intOf]; done) | (simp [intOf]; omega)⟩
            · have n1 : (x.k == 1) = false := by simpa using q1
              have H6 := Lib.hid (show FlCnt W1 wr mb n (acts.drop j) by rw [HX.out.2]; exact HR.out.skip HX2.out (fun h => q1 h.1))
              clear q1
              go_wp2_with fail
              exact ⟨⟨j, _, by omega, rfl, rfl, H6⟩, by first | (simp [intOf]; done) | (simp [intOf]; omega)⟩
end Go.Proofs.Ytehlabdbbbbopaa
