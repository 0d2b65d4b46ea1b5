/- Layer 2: is a disk the document's? Layer 2: a crash of the disk and of the reference; same. Layer 2: what rounds of the laws leave alone. -/
import Derived.Test.YtehlabdbbbbopaaPa34
import Derived.Test.YtehlabdbbbbopaaPa36

namespace Go.Proofs.Ytehlabdbbbbopaa
open Go.RowKit Go.Maps Go.Shelf

/-- A disk is the reference's. -/
structure DkRk (D : Dk) (R : Rk) : Prop where
  l : R.lasts = listOf D.pages D.lasts
  w : R.waits = D.waits
  k : R.kind = D.kind
  lf : D.kind = 0 ∨ R.left = D.left
  dd : R.dead = D.dead
  st : R.steps = D.steps
  pg : ∀ x, D.page x = lastOf D.waits x ((D.lasts x).getD nought)
/-- A disk somewhere. -/
def DkHere (w : World) (d : Nat) (D : Dk) : Prop := ∃ m1 m2 V, DkAt w d m1 m2 V D
theorem DkIn.here {w0 w : World} {d : Nat} {D : Dk} (h : DkIn w0 w d D) : DkHere w d D := by
  obtain ⟨⟨m1, m2, V, h1, h2, h3⟩, h4, h5⟩ := h
  exact ⟨m1, m2, V, h1⟩
theorem DkHere.keeps {w w' : World} {d : Nat} {D : Dk} (h : DkHere w d D) (hk : Keeps w w' []) : DkHere w' d D := by
  obtain ⟨m1, m2, V, h⟩ := h
  exact ⟨m1, m2, V, h.keeps hk⟩
theorem DkRk.fit {D : Dk} {R : Rk} (h : DkRk D R) (ok : DkOk D) (hw : D.waits.length ≤ 100000) : RkFit R :=
  ⟨by rw [h.w]; exact hw, by rw [h.l, listOf_length]; have := ok.p4; omega, fun p hp => by
    rw [h.l, listOf_length]
    rw [h.w] at hp
    have := ok.w p hp
    omega⟩
theorem DkRk.page {D : Dk} {R : Rk} (h : DkRk D R) {n : Nat} (hn : n < D.pages) : R.page n = D.page n := by
  unfold Rk.page
  rw [h.pg, h.w, h.l, List.getD_eq_getElem?_getD, List.getElem?_eq_getElem (by rw [listOf_length]; exact hn)]
  rw [Option.getD_some, listOf_get]
theorem DkRk.code {D : Dk} {R : Rk} (h : DkRk D R) : R.code = D.code := by
  unfold Rk.code Dk.code
  rw [h.dd, h.k]
  rcases h.lf with h0 | h0
  · rw [h0]; simp
  · rw [h0]
theorem DkRk.step {D : Dk} {R : Rk} (h : DkRk D R) (_ok : DkOk D) (hc : D.code ≠ 0) : DkRk D.refused R.stepped := by
  have hpg := h.pg
  unfold Dk.code at hc
  unfold Dk.refused Rk.stepped
  rw [h.dd]
  by_cases hd : D.dead = true
  · rw [if_pos hd, if_pos hd]
    exact h
  · rw [if_neg hd, if_neg hd]
    rw [if_neg hd] at hc
    by_cases hk : D.kind = 0
    · rw [if_pos hk] at hc
      exact absurd rfl hc
    · rw [if_neg hk] at hc
      by_cases hl : D.left = 0
      · have hl' : R.left = 0 := by rcases h.lf with h0 | h0 <;> omega
        rw [if_pos ⟨by rw [h.k]; exact hk, hl'⟩]
        exact ⟨h.l, h.w, rfl, .inl rfl, by show (R.kind == 1) = (D.kind == 1); rw [h.k], h.st, hpg⟩
      · rw [if_neg hl] at hc
        exact absurd rfl hc
theorem DkRk.tick {D : Dk} {R : Rk} (h : DkRk D R) (ok : DkOk D) (hc : D.code = 0) : DkRk D.ticked.counted R.stepped := by
  have hpg := h.pg
  obtain ⟨c1, c2⟩ := Dk.code_zero hc
  have hlf := ok.lf
  unfold Rk.stepped
  rw [h.dd, c1, if_neg (by simp)]
  rw [if_neg (by rw [h.k]; rintro ⟨q1, q2⟩; rcases h.lf with h0 | h0 <;> omega)]
  have hp : ∀ x, D.ticked.counted.page x = lastOf D.ticked.counted.waits x ((D.ticked.counted.lasts x).getD nought) := by
    unfold Dk.ticked
    split <;> exact hpg
  unfold Dk.ticked at *
  by_cases hk : D.kind = 0
  · rw [if_pos hk] at *
    exact ⟨h.l, h.w, h.k, .inl hk, by first | exact c1.symm | exact h.dd, by show RowKit.wrap64 (R.steps + 1) = RowKit.wrap64 (D.steps + 1); rw [h.st], hp⟩
  · rw [if_neg hk] at *
    refine ⟨h.l, h.w, h.k, .inr ?_, ?_, by show RowKit.wrap64 (R.steps + 1) = RowKit.wrap64 (D.steps + 1); rw [h.st], hp⟩
    · show (if R.kind = 0 then R.left else RowKit.wrap64 (R.left - 1)) = D.left - 1
      rw [if_neg (by rw [h.k]; exact hk)]
      have : R.left = D.left := by rcases h.lf with h0 | h0 <;> omega
      rw [this, IntWalk.wrap64_in _ (by omega)]
    · first | exact c1.symm | exact h.dd
theorem listOf_congr {n : Nat} {M N : Int → Option (List UInt8)} (h : ∀ i : Nat, i < n → (M (i : Int)).getD nought = (N (i : Int)).getD nought) : listOf n M = listOf n N := by
  unfold listOf
  exact List.map_congr_left fun i hi => h i (List.mem_range.1 hi)
theorem applied_get (lasts : List (List UInt8)) (ws : List (Int × List UInt8)) (hw : ∀ p ∈ ws, 0 ≤ p.1 ∧ p.1 < lasts.length) (i : Nat) (hi : i < (applied lasts ws).length) : (applied lasts ws)[i] = lastOf ws i (lasts.getD i []) := by
  unfold applied lastOf at *
  induction ws generalizing lasts with
  | nil =>
    simp only [List.foldl_nil] at hi ⊢
    rw [List.getD_eq_getElem?_getD, List.getElem?_eq_getElem hi]
    rfl
  | cons p ws ih =>
    simp only [List.foldl_cons] at hi ⊢
    rw [ih (lasts.set p.1.toNat p.2) (fun q hq => by rw [List.length_set]; exact hw q (by simp [hq])) hi]
    congr 1
    have hp := hw p (by simp)
    by_cases e : p.1 = (i : Int)
    · rw [if_pos e]
      have : p.1.toNat = i := by omega
      rw [this, List.getD_eq_getElem?_getD, List.getElem?_set_self (by omega)]
      rfl
    · rw [if_neg e, List.getD_eq_getElem?_getD, List.getElem?_set_ne (by omega), List.getD_eq_getElem?_getD]
theorem Dk.ticked_pages (D : Dk) : D.ticked.counted.pages = D.pages ∧ D.ticked.counted.now = D.now ∧ D.ticked.counted.lasts = D.lasts ∧ D.ticked.counted.waits = D.waits := by
  unfold Dk.ticked
  split <;> exact ⟨rfl, rfl, rfl, rfl⟩
theorem DkRk.write {D : Dk} {R : Rk} (h : DkRk D R) (ok : DkOk D) (page : Int) (b : List UInt8) : (R.write page b).1 = (D.write page b).1 ∧ DkRk (D.write page b).2 (R.write page b).2 := by
  have hl : (R.lasts.length : Int) = D.pages := by rw [h.l, listOf_length]
  unfold Rk.write Dk.write
  by_cases h1 : b.length ≠ 256
  · rw [if_pos h1, if_pos h1]
    exact ⟨rfl, h⟩
  · rw [if_neg h1, if_neg h1, hl]
    by_cases h2 : page < 0 ∨ (D.pages : Int) ≤ page
    · rw [if_pos h2, if_pos h2]
      exact ⟨rfl, h⟩
    · rw [if_neg h2, if_neg h2, h.code]
      by_cases hc : D.code = 0
      · rw [if_neg (by simp [hc]), if_neg (by simp [hc])]
        have ht := h.tick ok hc
        refine ⟨rfl, ⟨ht.l, ?_, ht.k, ht.lf, ht.dd, ht.st, fun x => ?_⟩⟩
        · show R.stepped.waits ++ [(page, b)] = D.ticked.waits ++ [(page, b)]
          rw [show R.stepped.waits = D.ticked.waits from ht.w]
        · show ((if x = page then some b else D.ticked.now x)).getD nought = lastOf (D.ticked.waits ++ [(page, b)]) x ((D.ticked.lasts x).getD nought)
          rw [lastOf_snoc]
          by_cases hx : x = page
          · rw [if_pos hx, if_pos hx.symm]
            rfl
          · rw [if_neg hx, if_neg (fun e => hx e.symm)]
            exact ht.pg x
      · rw [if_pos hc, if_pos hc]
        exact ⟨rfl, h.step ok hc⟩
theorem DkRk.flush {D : Dk} {R : Rk} (h : DkRk D R) (ok : DkOk D) : R.flush.1 = D.flush.1 ∧ DkRk D.flush.2 R.flush.2 := by
  unfold Rk.flush Dk.flush
  rw [h.code]
  by_cases hc : D.code = 0
  · rw [if_neg (by simp [hc]), if_neg (by simp [hc])]
    have ht := h.tick ok hc
    obtain ⟨t1, t2, t3, t4⟩ := Dk.ticked_pages D
    refine ⟨rfl, ⟨?_, rfl, ht.k, ht.lf, ht.dd, ht.st, fun x => rfl⟩⟩
    show applied R.stepped.lasts R.stepped.waits = listOf D.ticked.pages D.ticked.now
    have el : R.stepped.lasts = listOf D.pages D.lasts := by rw [ht.l, t1, t3]
    have ew : R.stepped.waits = D.waits := by rw [ht.w, t4]
    have e1 : D.ticked.pages = D.pages := t1
    have e2 : D.ticked.now = D.now := t2
    rw [el, ew, e1, e2]
    refine List.ext_getElem (by rw [applied_length, listOf_length, listOf_length]) fun i h1 h2 => ?_
    have hi : i < D.pages := by rwa [listOf_length] at h2
    rw [applied_get _ _ (fun p hp => by rw [listOf_length]; have := ok.w p hp; omega), listOf_get]
    have := h.pg (i : Int)
    unfold Dk.page at this
    rw [this, List.getD_eq_getElem?_getD, List.getElem?_eq_getElem (by rw [listOf_length]; exact hi), Option.getD_some, listOf_get]
  · rw [if_pos hc, if_pos hc]
    exact ⟨rfl, h.step ok hc⟩
theorem DkRk.arm {D : Dk} {R : Rk} (h : DkRk D R) (kind steps : Int) : (R.arm kind steps).1 = (D.arm kind steps).1 ∧ DkRk (D.arm kind steps).2 (R.arm kind steps).2 := by
  unfold Rk.arm Dk.arm
  by_cases h1 : kind < 0 ∨ 2 < kind ∨ (kind = 0 ∧ 0 ≤ steps)
  · rw [if_pos h1, if_pos h1]
    exact ⟨rfl, h⟩
  · rw [if_neg h1, if_neg h1, h.dd]
    by_cases h2 : D.dead = true
    · rw [if_pos h2, if_pos h2]
      exact ⟨rfl, h⟩
    · rw [if_neg h2, if_neg h2]
      refine ⟨rfl, ?_⟩
      by_cases h3 : steps < 0
      · rw [if_pos h3, if_pos h3]
        exact ⟨h.l, h.w, rfl, .inl rfl, by first | rfl | exact h.dd, h.st, h.pg⟩
      · rw [if_neg h3, if_neg h3]
        exact ⟨h.l, h.w, rfl, .inr rfl, by first | rfl | exact h.dd, h.st, h.pg⟩
theorem DkRk.act {D : Dk} {R : Rk} (h : DkRk D R) (ok : DkOk D) (x : ActV) : (R.act x).1 = (D.act x).1 ∧ DkRk (D.act x).2 (R.act x).2 := by
  unfold Rk.act Dk.act
  split
  · exact h.write ok _ _
  · split
    · exact h.flush ok
    · split
      · exact h.arm _ _
      · exact ⟨rfl, h⟩
theorem DkRk.fresh (n : Nat) : DkRk (Dk.fresh n) (Rk.fresh n) := by
  refine ⟨?_, rfl, rfl, .inl rfl, rfl, rfl, fun x => rfl⟩
  show List.replicate n nought = listOf n (fun _ => none)
  refine List.ext_getElem (by simp [listOf]) fun i h1 h2 => ?_
  rw [listOf_get, List.getElem_replicate]
  rfl
end Go.Proofs.Ytehlabdbbbbopaa

namespace Go.Proofs.Ytehlabdbbbbopaa
open Go.RowKit Go.Maps Go.Shelf

/-- Pages alike. -/
def SimM (n : Nat) (M N : Int → Option (List UInt8)) : Prop := ∀ i : Nat, i < n → (M (i : Int)).getD nought = (N (i : Int)).getD nought
theorem secStep_sim {ws : List (Int × List UInt8)} {n : Nat} {M N : Int → Option (List UInt8)} (h : SimM n M N) (ps : List Int) (x : Int × Nat) (hx : 0 ≤ x.1 ∧ x.1 < n) : SimM n (secStep ws (M, ps) x).1 (secStep ws (N, ps) x).1 ∧ (secStep ws (M, ps) x).2 = (secStep ws (N, ps) x).2 := by
  unfold secStep
  cases ps with
  | nil => exact ⟨h, rfl⟩
  | cons p ps =>
    simp only
    split
    · exact ⟨h, rfl⟩
    · refine ⟨fun i hi => ?_, rfl⟩
      simp only
      have e : (M x.1).getD nought = (N x.1).getD nought := by
        have := h x.1.toNat (by omega)
        rwa [Int.toNat_of_nonneg hx.1] at this
      by_cases hix : (i : Int) = x.1
      · rw [if_pos hix, if_pos hix, e]
      · rw [if_neg hix, if_neg hix]
        exact h i hi
theorem secRun_sim {ws : List (Int × List UInt8)} {n : Nat} (xs : List (Int × Nat)) {M N : Int → Option (List UInt8)} (h : SimM n M N) (ps : List Int) (hx : ∀ x ∈ xs, 0 ≤ x.1 ∧ x.1 < n) : SimM n (secRun ws xs M ps).1 (secRun ws xs N ps).1 := by
  unfold secRun
  induction xs generalizing M N ps with
  | nil => exact h
  | cons x xs ih =>
    rw [List.foldl_cons, List.foldl_cons]
    have h1 := secStep_sim (ws := ws) h ps x (hx x (by simp))
    generalize secStep ws (M, ps) x = s1 at h1
    generalize secStep ws (N, ps) x = s2 at h1
    obtain ⟨a, b⟩ := s1
    obtain ⟨c, d⟩ := s2
    obtain ⟨h1, h2⟩ := h1
    simp only at h1 h2
    subst h2
    exact ih h1 b (fun y hy => hx y (by simp [hy]))
theorem DkRk.crash {D : Dk} {R : Rk} (h : DkRk D R) (ok : DkOk D) (picks : List Int) : DkRk (D.crash picks) (R.crash picks) := by
  unfold Rk.crash Dk.crash
  suffices hs : listOf R.lasts.length (pgsRun R.waits R.lasts.length (ofList R.lasts) picks).1 = listOf D.pages (secRun D.waits (secList D.waits) D.lasts picks).1 by
    generalize (pgsRun R.waits R.lasts.length (ofList R.lasts) picks).1 = N at hs ⊢
    generalize (secRun D.waits (secList D.waits) D.lasts picks).1 = M at hs ⊢
    exact ⟨hs, rfl, rfl, .inl rfl, rfl, rfl, fun x => rfl⟩
  show listOf R.lasts.length (pgsRun R.waits R.lasts.length (ofList R.lasts) picks).1 = listOf D.pages (secRun D.waits (secList D.waits) D.lasts picks).1
  have hl : R.lasts.length = D.pages := by rw [h.l, listOf_length]
  rw [h.w, hl, ← secRun_pgs (ws := D.waits) (n := D.pages) (fun p hp => (ok.w p hp).2.1) ok.p4]
  refine listOf_congr (secRun_sim _ (fun i hi => ?_) _ (fun x hx => ?_))
  · unfold ofList
    rw [if_pos (by omega), Int.toNat_natCast, h.l, List.getElem?_eq_getElem (by rw [listOf_length]; exact hi), listOf_get]
    rfl
  · unfold secList at hx
    obtain ⟨k, hk, hx⟩ := List.mem_flatMap.1 hx
    obtain ⟨h1, h2, h3⟩ := secKeys_in hk
    obtain ⟨b, hb⟩ := List.exists_mem_of_ne_nil _ h3
    have h4 := ok.w _ (pagesOf_in hb)
    have e : x.1 = k := by
      unfold four at hx
      simp at hx
      rcases hx with rfl | rfl | rfl | rfl <;> rfl
    rw [e]
    exact ⟨h4.1, h4.2.1⟩
set_option maxRecDepth 100000 in
set_option maxHeartbeats 1000000 in
theorem same2_any {w : World} {d : Nat} {D : Dk} (h : DkHere w d D) (g : Value) (R : Rk) (hg : RkAt w g R) (hR : DkRk D R) (hw : D.waits.length ≤ 100000) :
    Calls Try.prog 23 #[.pointer (some ⟨d, 0, none⟩), g] w fun e w' => e = .returned (.bool true) ∧ Keeps w w' [] := by
  obtain ⟨A, c, B, b, rfl, hA, hB⟩ := hg.e
  have hok : DkOk D := by obtain ⟨m1, m2, V, h⟩ := h; exact h.ok
  have hl : R.lasts.length = D.pages := by rw [hR.l, listOf_length]
  have HI := Lib.hid (And.intro h (And.intro hg (And.intro hR (And.intro (hR.fit hok hw) (And.intro hok hl)))))
  obtain ⟨W0, hW0⟩ : ∃ W0, w.alloc (.cells (rkRow R A c B b) 43) = W0 := ⟨_, rfl⟩
  have k0 : Keeps w W0 [] := by rw [← hW0]; exact Keeps.alloc _ _
  have r0 : Row W0 w.heap.size 43 (rkRow R A c B b) := by rw [← hW0]; exact Row.new _ _ _
  have H0 := Lib.hid (And.intro k0 r0)
  clear hA hB h hg hR hw hok hl k0 r0
  go_enter Try.func23, Try.ntmps23
  go_wp2_with fail
  clear hW0
  have HK := Lib.hid (Keeps.refl W0 [])
  go_loopw [5] (fun i wr => ∃ n : Nat, n ≤ R.lasts.length ∧ i = .int .i64 n ∧ Hid (Keeps W0 wr [])) (fun i _ => R.lasts.length - (intOf i).toNat)
  case atStart => exact ⟨0, by omega, rfl, HK⟩
  case round =>
    clear HK
    obtain ⟨n, hn, rfl, HR⟩ := hrel
    have q0 := H0.out.2.keeps HR.out
    have y0 := q0.cell 0
    have y1 := q0.cell 1
    have y2 := q0.cell 2
    have y3 := q0.cell 3
    have y4 := q0.cell 4
    have y5 := q0.cell 5
    simp only [List.getElem?_toArray, List.getElem?_cons_zero, List.getElem?_cons_succ] at y0 y1 y2 y3 y4 y5
    have hfl := HI.out.2.2.2.1.l
    by_cases hnl : n < R.lasts.length
    · go_wp2_with fail
      obtain ⟨m1, m2, V, hd⟩ := HI.out.1.keeps (H0.out.1.then_ HR.out)
      refine (dkRead_any wr d m1 m2 V D hd n).mono ?_
      rintro e w3 ⟨hk, hv⟩
      rw [if_pos (show (0 : Int) ≤ (n : Int) ∧ (n : Int) < D.pages from by have := HI.out.2.2.2.2.2; omega)] at hv
      obtain ⟨v, rfl, hO⟩ := hv
      obtain ⟨A7, c7, rfl, -, -, -, hL7⟩ := hO.parts
      have hpl := Dk.page_length HI.out.2.2.2.2.1 (n : Int)
      have hpe := HI.out.2.2.1.page (n := n) (by have := HI.out.2.2.2.2.2; omega)
      obtain ⟨S, hS⟩ : ∃ S : ByteArray, S = ⟨(D.page (n : Int)).toArray⟩ := ⟨_, rfl⟩
      have HS := Lib.hid (And.intro hS hpe)
      obtain ⟨N7, hN7⟩ : ∃ N7, (D.page (n : Int)).length = N7 := ⟨_, rfl⟩
      have HL7 := Lib.hid (And.intro hL7 hN7)
      have HW := Lib.hid (show Keeps W0 w3 [] from HR.out.then_ hk)
      rw [hN7]
      clear hO hL7 hpl hpe hS hN7 hd
      have q1 := q0.keeps hk
      have y0 := q1.cell 0
      have y1 := q1.cell 1
      have y2 := q1.cell 2
      have y3 := q1.cell 3
      have y4 := q1.cell 4
      have y5 := q1.cell 5
      simp only [List.getElem?_toArray, List.getElem?_cons_zero, List.getElem?_cons_succ] at y0 y1 y2 y3 y4 y5
      have MB0 := fun (W' : World) (hW : Keeps w3 W' []) => (q1.keeps hW).cell 0
      have MB1 := fun (W' : World) (hW : Keeps w3 W' []) => (q1.keeps hW).cell 1
      have MB2 := fun (W' : World) (hW : Keeps w3 W' []) => (q1.keeps hW).cell 2
      have MB3 := fun (W' : World) (hW : Keeps w3 W' []) => (q1.keeps hW).cell 3
      have MB4 := fun (W' : World) (hW : Keeps w3 W' []) => (q1.keeps hW).cell 4
      have MB5 := fun (W' : World) (hW : Keeps w3 W' []) => (q1.keeps hW).cell 5
      simp only [List.getElem?_toArray, List.getElem?_cons_zero, List.getElem?_cons_succ] at MB0 MB1 MB2 MB3 MB4 MB5
      have HCV := Lib.hid (show ∀ W : World, Keeps w3 W [] → (convert 32 9 (.slice A7 N7 c7)).run Try.prog W = .ok (.string S) W from fun W hk => by
        have := conv_str W _ A7 c7 (D.page n) (HL7.out.1.keep hk (Nat.le_refl _) (by simp))
        rw [HL7.out.2] at this
        rw [this, HS.out.1])
      have HPG := Lib.hid (show ∀ W : World, Keeps w3 W [] → Calls Try.prog 40 #[.agg #[.slice A R.lasts.length c, .slice B R.waits.length b, .int .i64 R.kind, .int .i64 R.left, .bool R.dead, .int .i64 R.steps], .int .i64 (n : Int)] W fun e w' => e = .returned (.string S) ∧ Keeps W w' [] from fun W hk => by
        have := refPage_any W _ R (HI.out.2.1.keeps (H0.out.1.then_ (HW.out.then_ hk))) n hnl HI.out.2.2.2.1.w HI.out.2.2.2.1.l
        rwa [HS.out.2, ← HS.out.1] at this)
      clear q0 q1 hk
      go_wp2_with fail
      refine wp_region_keeps _ (by kernel_rfl) rfl (by kernel_rfl) ?_
      apply loose_is
      · intro W vals hW hkn
        clear hkn
        refine ⟨?_⟩
        simp only [fill]
        go_simp
        first | exact ⟨Keeps.refl _ _, rfl⟩ | exact ⟨Keeps.alloc _ _, rfl⟩
      simp only [addEnt]
      apply loose_is
      · intro W vals hW hkn
        clear hkn
        refine ⟨?_⟩
        simp only [fill]
        go_simp
        first | exact ⟨Keeps.refl _ _, rfl⟩ | exact ⟨Keeps.alloc _ _, rfl⟩
      simp only [addEnt]
      apply loose_is
      · intro W vals hW hkn
        clear hkn
        refine ⟨?_⟩
        simp only [fill]
        go_simp
        first | exact ⟨Keeps.refl _ _, rfl⟩ | exact ⟨Keeps.alloc _ _, rfl⟩
      simp only [addEnt]
      apply loose_is
      · intro W vals hW hkn
        clear hkn
        refine ⟨?_⟩
        simp only [fill]
        go_simp
        first | exact ⟨Keeps.refl _ _, rfl⟩ | exact ⟨Keeps.alloc _ _, rfl⟩
      simp only [addEnt]
      apply loose_is
      · intro W vals hW hkn
        simp only [knows] at hkn
        try simp only [and_true] at hkn
        have hcv := HCV.out W hW
        refine ⟨?_⟩
        simp only [fill]
        go_simp
        first | exact ⟨Keeps.refl _ _, rfl⟩ | exact ⟨Keeps.alloc _ _, rfl⟩
      simp only [addEnt]
      apply loose_is
      · intro W vals hW hkn
        clear hkn
        refine ⟨?_⟩
        simp only [fill]
        go_simp
        first | exact ⟨Keeps.refl _ _, rfl⟩ | exact ⟨Keeps.alloc _ _, rfl⟩
      simp only [addEnt]
      apply loose_is
      · intro W vals hW hkn
        clear hkn
        refine ⟨?_⟩
        simp only [fill]
        go_simp
        first | exact ⟨Keeps.refl _ _, rfl⟩ | exact ⟨Keeps.alloc _ _, rfl⟩
      simp only [addEnt]
      apply loose_is
      · intro W vals hW hkn
        clear hkn
        refine ⟨?_⟩
        simp only [fill]
        go_simp
        refine looseUpon_calls ?_
        exact (HPG.out W hW).mono (by rintro e w' ⟨rfl, hk⟩; exact ⟨_, rfl, hk, rfl⟩)
      simp only [addEnt]
      apply loose_is
      · intro W vals hW hkn
        clear hkn
        refine ⟨?_⟩
        simp only [fill]
        go_simp
        first | exact ⟨Keeps.refl _ _, rfl⟩ | exact ⟨Keeps.alloc _ _, rfl⟩
      simp only [addEnt]
      apply loose_is
      · intro W vals hW hkn
        clear hkn
        refine ⟨?_⟩
        simp only [fill]
        go_simp
        first | exact ⟨Keeps.refl _ _, rfl⟩ | exact ⟨Keeps.alloc _ _, rfl⟩
      simp only [addEnt]
      refine loose_nil (fun W vals hW hkn => ?_)
      simp only [knowsAll] at hkn
      try simp only [and_true] at hkn
      simp only [fill, Act.put, List.setIfInBounds_toArray, List.set_cons_succ, List.set_cons_zero]
      have HW2 := Lib.hid (show Keeps W0 W [] from HW.out.then_ hW)
      clear hkn MB0 MB1 MB2 MB3 MB4 MB5 hW
      go_wp2_with fail
      exact ⟨⟨n + 1, by omega, by go_num, HW2⟩, by simp [intOf]; omega⟩
    · obtain rfl : n = R.lasts.length := by omega
      have e1 := HI.out.2.2.1
      have HD := Lib.hid (show ∀ W : World, Keeps wr W [] → DkHere W d D from fun W hk => HI.out.1.keeps (H0.out.1.then_ (HR.out.then_ hk)))
      have eA : (R.lasts.length : Int) = (D.pages : Int) := by rw [HI.out.2.2.2.2.2]
      have HP1 := Lib.hid (show ∀ W : World, Keeps wr W [] → Calls Try.prog 27 #[.pointer (some ⟨d, 0, none⟩)] W fun e w' => e = .returned (.int .i64 (R.lasts.length : Int)) ∧ W = w' from fun W hk => by obtain ⟨m1, m2, V, hd⟩ := HD.out W hk; rw [eA]; exact dkPages_any hd)
      have HP2 := Lib.hid (show ∀ W : World, Keeps wr W [] → Calls Try.prog 25 #[.pointer (some ⟨d, 0, none⟩)] W fun e w' => e = .returned (.int .i64 (R.waits.length : Int)) ∧ W = w' from fun W hk => by obtain ⟨m1, m2, V, hd⟩ := HD.out W hk; rw [e1.w]; exact dkWaits_any hd)
      have HP3 := Lib.hid (show ∀ W : World, Keeps wr W [] → Calls Try.prog 15 #[.pointer (some ⟨d, 0, none⟩)] W fun e w' => e = .returned (.bool R.dead) ∧ W = w' from fun W hk => by obtain ⟨m1, m2, V, hd⟩ := HD.out W hk; rw [e1.dd]; exact dkDead_any hd)
      have HP4 := Lib.hid (show ∀ W : World, Keeps wr W [] → Calls Try.prog 16 #[.pointer (some ⟨d, 0, none⟩)] W fun e w' => e = .returned (.int .i64 R.steps) ∧ W = w' from fun W hk => by obtain ⟨m1, m2, V, hd⟩ := HD.out W hk; rw [e1.st]; exact dkSteps_any hd)
      have MB0 := fun (W' : World) (hW : Keeps wr W' []) => (q0.keeps hW).cell 0
      have MB1 := fun (W' : World) (hW : Keeps wr W' []) => (q0.keeps hW).cell 1
      have MB2 := fun (W' : World) (hW : Keeps wr W' []) => (q0.keeps hW).cell 2
      have MB3 := fun (W' : World) (hW : Keeps wr W' []) => (q0.keeps hW).cell 3
      have MB4 := fun (W' : World) (hW : Keeps wr W' []) => (q0.keeps hW).cell 4
      have MB5 := fun (W' : World) (hW : Keeps wr W' []) => (q0.keeps hW).cell 5
      simp only [List.getElem?_toArray, List.getElem?_cons_zero, List.getElem?_cons_succ] at MB0 MB1 MB2 MB3 MB4 MB5
      clear eA e1 q0
      go_wp2_with fail
      refine wp_region_keeps _ (by kernel_rfl) rfl (by kernel_rfl) ?_
      apply loose_is
      · intro W vals hW hkn
        clear hkn
        refine ⟨?_⟩
        simp only [fill]
        go_simp
        first | exact ⟨Keeps.refl _ _, rfl⟩ | exact ⟨Keeps.alloc _ _, rfl⟩
      simp only [addEnt]
      apply loose_is
      · intro W vals hW hkn
        clear hkn
        refine ⟨?_⟩
        simp only [fill]
        go_simp
        refine looseUpon_calls ?_
        exact (HP1.out W hW).mono (by rintro e w' ⟨rfl, rfl⟩; exact ⟨_, rfl, Keeps.refl _ _, rfl⟩)
      simp only [addEnt]
      apply loose_is
      · intro W vals hW hkn
        clear hkn
        refine ⟨?_⟩
        simp only [fill]
        go_simp
        first | exact ⟨Keeps.refl _ _, rfl⟩ | exact ⟨Keeps.alloc _ _, rfl⟩
      simp only [addEnt]
      apply loose_is
      · intro W vals hW hkn
        clear hkn
        refine ⟨?_⟩
        simp only [fill]
        go_simp
        first | exact ⟨Keeps.refl _ _, rfl⟩ | exact ⟨Keeps.alloc _ _, rfl⟩
      simp only [addEnt]
      apply loose_is
      · intro W vals hW hkn
        clear hkn
        refine ⟨?_⟩
        simp only [fill]
        go_simp
        first | exact ⟨Keeps.refl _ _, rfl⟩ | exact ⟨Keeps.alloc _ _, rfl⟩
      simp only [addEnt]
      apply loose_is
      · intro W vals hW hkn
        clear hkn
        refine ⟨?_⟩
        simp only [fill]
        go_simp
        first | exact ⟨Keeps.refl _ _, rfl⟩ | exact ⟨Keeps.alloc _ _, rfl⟩
      simp only [addEnt]
      apply loose_is
      · intro W vals hW hkn
        clear hkn
        refine ⟨?_⟩
        simp only [fill]
        go_simp
        first | exact ⟨Keeps.refl _ _, rfl⟩ | exact ⟨Keeps.alloc _ _, rfl⟩
      simp only [addEnt]
      apply loose_is
      · intro W vals hW hkn
        clear hkn
        refine ⟨?_⟩
        simp only [fill]
        go_simp
        first | exact ⟨Keeps.refl _ _, rfl⟩ | exact ⟨Keeps.alloc _ _, rfl⟩
      simp only [addEnt]
      apply loose_is
      · intro W vals hW hkn
        clear hkn
        refine ⟨?_⟩
        simp only [fill]
        go_simp
        refine looseUpon_calls ?_
        exact (HP2.out W hW).mono (by rintro e w' ⟨rfl, rfl⟩; exact ⟨_, rfl, Keeps.refl _ _, rfl⟩)
      simp only [addEnt]
      apply loose_is
      · intro W vals hW hkn
        clear hkn
        refine ⟨?_⟩
        simp only [fill]
        go_simp
        first | exact ⟨Keeps.refl _ _, rfl⟩ | exact ⟨Keeps.alloc _ _, rfl⟩
      simp only [addEnt]
      apply loose_is
      · intro W vals hW hkn
        clear hkn
        refine ⟨?_⟩
        simp only [fill]
        go_simp
        first | exact ⟨Keeps.refl _ _, rfl⟩ | exact ⟨Keeps.alloc _ _, rfl⟩
      simp only [addEnt]
      apply loose_is
      · intro W vals hW hkn
        clear hkn
        refine ⟨?_⟩
        simp only [fill]
        go_simp
        first | exact ⟨Keeps.refl _ _, rfl⟩ | exact ⟨Keeps.alloc _ _, rfl⟩
      simp only [addEnt]
      apply loose_is
      · intro W vals hW hkn
        clear hkn
        refine ⟨?_⟩
        simp only [fill]
        go_simp
        first | exact ⟨Keeps.refl _ _, rfl⟩ | exact ⟨Keeps.alloc _ _, rfl⟩
      simp only [addEnt]
      apply loose_is
      · intro W vals hW hkn
        clear hkn
        refine ⟨?_⟩
        simp only [fill]
        go_simp
        first | exact ⟨Keeps.refl _ _, rfl⟩ | exact ⟨Keeps.alloc _ _, rfl⟩
      simp only [addEnt]
      apply loose_is
      · intro W vals hW hkn
        clear hkn
        refine ⟨?_⟩
        simp only [fill]
        go_simp
        first | exact ⟨Keeps.refl _ _, rfl⟩ | exact ⟨Keeps.alloc _ _, rfl⟩
      simp only [addEnt]
      apply loose_is
      · intro W vals hW hkn
        clear hkn
        refine ⟨?_⟩
        simp only [fill]
        go_simp
        first | exact ⟨Keeps.refl _ _, rfl⟩ | exact ⟨Keeps.alloc _ _, rfl⟩
      simp only [addEnt]
      apply loose_is
      · intro W vals hW hkn
        clear hkn
        refine ⟨?_⟩
        simp only [fill]
        go_simp
        refine looseUpon_calls ?_
        exact (HP3.out W hW).mono (by rintro e w' ⟨rfl, rfl⟩; exact ⟨_, rfl, Keeps.refl _ _, rfl⟩)
      simp only [addEnt]
      apply loose_is
      · intro W vals hW hkn
        clear hkn
        refine ⟨?_⟩
        simp only [fill]
        go_simp
        first | exact ⟨Keeps.refl _ _, rfl⟩ | exact ⟨Keeps.alloc _ _, rfl⟩
      simp only [addEnt]
      apply loose_is
      · intro W vals hW hkn
        clear hkn
        refine ⟨?_⟩
        simp only [fill]
        go_simp
        first | exact ⟨Keeps.refl _ _, rfl⟩ | exact ⟨Keeps.alloc _ _, rfl⟩
      simp only [addEnt]
      apply loose_is
      · intro W vals hW hkn
        clear hkn
        refine ⟨?_⟩
        simp only [fill]
        go_simp
        first | exact ⟨Keeps.refl _ _, rfl⟩ | exact ⟨Keeps.alloc _ _, rfl⟩
      simp only [addEnt]
      apply loose_is
      · intro W vals hW hkn
        clear hkn
        refine ⟨?_⟩
        simp only [fill]
        go_simp
        first | exact ⟨Keeps.refl _ _, rfl⟩ | exact ⟨Keeps.alloc _ _, rfl⟩
      simp only [addEnt]
      apply loose_is
      · intro W vals hW hkn
        clear hkn
        refine ⟨?_⟩
        simp only [fill]
        go_simp
        first | exact ⟨Keeps.refl _ _, rfl⟩ | exact ⟨Keeps.alloc _ _, rfl⟩
      simp only [addEnt]
      apply loose_is
      · intro W vals hW hkn
        clear hkn
        refine ⟨?_⟩
        simp only [fill]
        go_simp
        first | exact ⟨Keeps.refl _ _, rfl⟩ | exact ⟨Keeps.alloc _ _, rfl⟩
      simp only [addEnt]
      apply loose_is
      · intro W vals hW hkn
        clear hkn
        refine ⟨?_⟩
        simp only [fill]
        go_simp
        refine looseUpon_calls ?_
        exact (HP4.out W hW).mono (by rintro e w' ⟨rfl, rfl⟩; exact ⟨_, rfl, Keeps.refl _ _, rfl⟩)
      simp only [addEnt]
      apply loose_is
      · intro W vals hW hkn
        clear hkn
        refine ⟨?_⟩
        simp only [fill]
        go_simp
        first | exact ⟨Keeps.refl _ _, rfl⟩ | exact ⟨Keeps.alloc _ _, rfl⟩
      simp only [addEnt]
      apply loose_is
      · intro W vals hW hkn
        clear hkn
        refine ⟨?_⟩
        simp only [fill]
        go_simp
        first | exact ⟨Keeps.refl _ _, rfl⟩ | exact ⟨Keeps.alloc _ _, rfl⟩
      simp only [addEnt]
      apply loose_is
      · intro W vals hW hkn
        clear hkn
        refine ⟨?_⟩
        simp only [fill]
        go_simp
        first | exact ⟨Keeps.refl _ _, rfl⟩ | exact ⟨Keeps.alloc _ _, rfl⟩
      simp only [addEnt]
      apply loose_is
      · intro W vals hW hkn
        clear hkn
        refine ⟨?_⟩
        simp only [fill]
        go_simp
        first | exact ⟨Keeps.refl _ _, rfl⟩ | exact ⟨Keeps.alloc _ _, rfl⟩
      simp only [addEnt]
      apply loose_is
      · intro W vals hW hkn
        clear hkn
        refine ⟨?_⟩
        simp only [fill]
        go_simp
        first | exact ⟨Keeps.refl _ _, rfl⟩ | exact ⟨Keeps.alloc _ _, rfl⟩
      simp only [addEnt]
      refine loose_nil (fun W vals hW hkn => ?_)
      simp only [knowsAll] at hkn
      try simp only [and_true] at hkn
      simp only [fill, Act.put, List.setIfInBounds_toArray, List.set_cons_succ, List.set_cons_zero]
      clear hkn MB0 MB1 MB2 MB3 MB4 MB5
      have HW := Lib.hid hW
      clear hW
      go_wp2_with fail
      go_ret
      exact ⟨rfl, (H0.out.1.then_ HR.out).then_ HW.out⟩
end Go.Proofs.Ytehlabdbbbbopaa

namespace Go.Proofs.Ytehlabdbbbbopaa
open Go.RowKit Go.Maps Go.Shelf

/-- Only blocks of one type of cells were written. -/
structure BoxOnly (t : TypeId) (w w' : World) : Prop where
  os : w'.os = w.os
  tape : w'.tape = w.tape
  output : w'.output = w.output
  size : w.heap.size ≤ w'.heap.size
  keep : ∀ {k : Nat} {o : Obj}, w.heap[k]? = some o → (∀ cs, o ≠ .cells cs t (0, 0)) → w'.heap[k]? = some o
theorem BoxOnly.of_keeps {t : TypeId} {w w' : World} (h : Keeps w w' []) : BoxOnly t w w' := ⟨h.os, h.tape, h.output, h.size, fun {k o} hk _ => (h.block k (Array.getElem?_eq_some_iff.1 hk).1 (by simp)).trans hk⟩
theorem BoxOnly.ok (t : TypeId) : RelOk (BoxOnly t) := ⟨fun h => .of_keeps h, fun h k => ⟨k.os.trans h.os, k.tape.trans h.tape, k.output.trans h.output, Nat.le_trans h.size k.size, fun {_ _} hi ho => k.keep (h.keep hi ho) ho⟩⟩
theorem BoxOnly.put {t : TypeId} {w w' : World} {b : Nat} {cs : Array Value} (hr : Row w b t cs) (hk : Keeps w w' [b]) : BoxOnly t w w' := ⟨hk.os, hk.tape, hk.output, hk.size, fun {k o} hi ho => (hk.block k (Array.getElem?_eq_some_iff.1 hi).1 (fun hm => by
  obtain rfl := List.mem_singleton.1 hm
  have e : some o = some (.cells cs t (0, 0)) := hi.symm.trans hr
  injection e with e
  exact ho cs e)).trans hi⟩
theorem BoxOnly.row {t t' : TypeId} {w w' : World} {b : Nat} {cs : Array Value} (h : BoxOnly t w w') (hr : Row w b t' cs) (hne : t' ≠ t) : Row w' b t' cs := h.keep hr fun cs' e => by
  injection e with _ e
  exact hne e
theorem BoxOnly.imap {P : Program} {k t : TypeId} {w w' : World} {b : Nat} {f : Int → Option Value} (h : BoxOnly t w w') (hm : IMap w P k b f) : IMap w' P k b f := by
  obtain ⟨D, ⟨es, clock, hb, hr⟩, hT⟩ := hm
  exact ⟨D, ⟨es, clock, h.keep hb (fun cs e => by cases e), hr⟩, hT⟩
theorem BoxOnly.own {t e : TypeId} {w w' : World} {B k n : Nat} {v : Value} {xs : List Value} (h : BoxOnly t w w') (ho : w.ownsRow B e k v n xs) (hne : e ≠ t) : w'.ownsRow B e k v n xs := by
  obtain ⟨h1, h2⟩ := ho
  refine ⟨h1, ?_⟩
  rcases h2 with h2 | ⟨g, cap, cur, hv, hg, hh, hr⟩
  · exact .inl h2
  · exact .inr ⟨g, cap, cur, hv, hg, h.row hh hne, hr⟩
theorem BoxOnly.list {α : Type} {f : α → List Value} {t e : TypeId} {w w' : World} {k : Nat} {A : Option Addr} {l : List α} (h : BoxOnly t w w') (hl : ListAt w e k f A l) (hne : e ≠ t) : ListAt w' e k f A l := fun hp => by
  obtain ⟨b, o, cs, ea, hr, hc⟩ := hl hp
  exact ⟨b, o, cs, ea, h.row hr hne, hc⟩
theorem RkAt.boxOnly {w w' : World} {g : Value} {R : Rk} (hg : RkAt w g R) (h : BoxOnly 43 w w') : RkAt w' g R := by
  obtain ⟨A, c, B, d, e, h1, h2⟩ := hg.e
  exact ⟨A, c, B, d, e, h.list h1 (by decide), h.list h2 (by decide)⟩
theorem DkAt.boxOnly {w w' : World} {d m1 m2 : Nat} {V : Value} {D : Dk} (hd : DkAt w d m1 m2 V D) (h : BoxOnly 43 w w') : DkAt w' d m1 m2 V D :=
  ⟨h.row hd.row (by decide), h.imap hd.l, h.imap hd.n, h.own hd.w (by decide), hd.ne, hd.ok⟩
theorem DkIn.boxOnly {w0 w w' : World} {d : Nat} {D : Dk} (hd : DkIn w0 w d D) (h : BoxOnly 43 w w') (hk : Keeps w0 w' []) : DkIn w0 w' d D := by
  obtain ⟨⟨m1, m2, V, h1, h2, h3⟩, h4, h5⟩ := hd
  exact ⟨⟨m1, m2, V, h1.boxOnly h, h2, h3⟩, h4, hk⟩
/-- A block of cells stays. -/
def KeepRow (b : Nat) (t : TypeId) (w w' : World) : Prop := ∀ cs, Row w b t cs → Row w' b t cs
theorem KeepRow.ok (b : Nat) (t : TypeId) : RelOk (KeepRow b t) := ⟨fun h _ hr => hr.keeps h, fun h k cs hr => k cs (h cs hr)⟩
theorem RelOk.and {R S : World → World → Prop} (h : RelOk R) (k : RelOk S) : RelOk (fun w w' => R w w' ∧ S w w') := ⟨fun x => ⟨h.keeps x, k.keeps x⟩, fun x y => ⟨h.trans x.1 y.1, k.trans x.2 y.2⟩⟩
theorem RowsBut.ok (d : Nat) : RelOk (RowsBut d) := ⟨fun h => .of_keeps h, fun h k => h.trans k⟩
theorem Dk.write_size (D : Dk) (p : Int) (b : List UInt8) : (D.write p b).2.waits.length ≤ D.waits.length + 1 ∧ (D.write p b).2.pages = D.pages := by
  have ht := D.ticked_same
  unfold Dk.write
  split
  · exact ⟨Nat.le_succ _, rfl⟩
  · split
    · exact ⟨Nat.le_succ _, rfl⟩
    · split
      · unfold Dk.refused
        split <;> exact ⟨Nat.le_succ _, rfl⟩
      · refine ⟨?_, ht.1⟩
        show (D.ticked.waits ++ [(p, b)]).length ≤ _
        rw [ht.2.2]
        simp
theorem Dk.flush_size (D : Dk) : D.flush.2.waits.length ≤ D.waits.length + 1 ∧ D.flush.2.pages = D.pages := by
  have ht := D.ticked_same
  unfold Dk.flush
  split
  · unfold Dk.refused
    split <;> exact ⟨Nat.le_succ _, rfl⟩
  · exact ⟨Nat.zero_le _, ht.1⟩
theorem Dk.arm_size (D : Dk) (k s : Int) : (D.arm k s).2.waits.length ≤ D.waits.length + 1 ∧ (D.arm k s).2.pages = D.pages := by
  unfold Dk.arm
  split
  · exact ⟨Nat.le_succ _, rfl⟩
  · split
    · exact ⟨Nat.le_succ _, rfl⟩
    · split <;> exact ⟨Nat.le_succ _, rfl⟩
theorem Dk.act_size (D : Dk) (x : ActV) : (D.act x).2.waits.length ≤ D.waits.length + 1 ∧ (D.act x).2.pages = D.pages := by
  unfold Dk.act
  split
  · exact D.write_size _ _
  · split
    · exact D.flush_size
    · split
      · exact D.arm_size _ _
      · exact ⟨Nat.le_succ _, rfl⟩
end Go.Proofs.Ytehlabdbbbbopaa
