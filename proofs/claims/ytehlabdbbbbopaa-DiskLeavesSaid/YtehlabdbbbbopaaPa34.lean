/- The reference of layer 2: Crash. -/
import Derived.Test.YtehlabdbbbbopaaPa32
import Derived.Test.YtehlabdbbbbopaaPa33
import Derived.Test.YtehlabdbbbbopaaPa23

namespace Go.Proofs.Ytehlabdbbbbopaa
open Go.RowKit Go.Maps Go.Shelf

def ofList (l : List (List UInt8)) : Int → Option (List UInt8) := fun x => if 0 ≤ x then l[x.toNat]? else none
def listOf (n : Nat) (M : Int → Option (List UInt8)) : List (List UInt8) := (List.range n).map fun i : Nat => (M (i : Int)).getD nought
theorem listOf_length (n : Nat) (M : Int → Option (List UInt8)) : (listOf n M).length = n := by simp [listOf]
theorem listOf_ofList (l : List (List UInt8)) : listOf l.length (ofList l) = l := by
  unfold listOf ofList
  refine List.ext_getElem (by simp) fun i h1 h2 => ?_
  simp [h2]
theorem listOf_get {n : Nat} {M : Int → Option (List UInt8)} {i : Nat} (h : i < (listOf n M).length) : (listOf n M)[i] = (M (i : Int)).getD nought := by simp [listOf]
theorem listOf_set {n : Nat} {M : Int → Option (List UInt8)} {i : Nat} {z : List UInt8} : listOf n (fun y => if y = (i : Int) then some z else M y) = (listOf n M).set i z := by
  refine List.ext_getElem (by simp [listOf]) fun j h1 h2 => ?_
  rw [listOf_get, List.getElem_set]
  by_cases e : i = j
  · subst e
    rw [if_pos rfl, if_pos rfl]
    rfl
  · rw [if_neg e, if_neg (by omega), listOf_get]
def Rk.crash (R : Rk) (picks : List Int) : Rk := { Rk.fresh 0 with lasts := listOf R.lasts.length (pgsRun R.waits R.lasts.length (ofList R.lasts) picks).1 }
theorem roundOf_ref {p : Int} {m : Nat} : roundOf p m = if p.tmod ((m : Int) + 1) < 0 then p.tmod ((m : Int) + 1) + m + 1 else p.tmod ((m : Int) + 1) := by
  unfold roundOf
  have h1 := Int.lt_tmod_of_pos p (show 0 < (m : Int) + 1 by omega)
  have h2 := Int.tmod_lt_of_pos p (show 0 < (m : Int) + 1 by omega)
  generalize p.tmod ((m : Int) + 1) = r at h1 h2
  split
  · rw [Int.tmod_eq_of_lt (by omega) (by omega)]
  · rw [Int.tmod_eq_emod_of_nonneg (by omega), Int.add_assoc]
    rw [show (r + ((m : Int) + 1)) % ((m : Int) + 1) = r % ((m : Int) + 1) by simp]
    exact Int.emod_eq_of_lt (by omega) (by omega)
abbrev rkBox (A : Option Addr) (n c : Nat) : Array Value := #[.slice A n c, .slice none 0 0, .int .i64 0, .int .i64 0, .bool false, .int .i64 0]
/-- What stands while a crash is told. -/
structure RcAt (W0 : World) (b5 : Nat) (A5 : Option Addr) (n5 c5 n : Nat) (M : Int → Option (List UInt8)) (W : World) : Prop where
  own : OwnN W W0.heap.size 9 1 txtV (.slice A5 n5 c5) (listOf n M)
  box : Row W b5 43 (rkBox A5 n5 c5)
  k : Keeps W0 W []
  b : W0.heap.size ≤ b5
  m : ∀ x b, M x = some b → b.length = 256
theorem RcAt.keeps {W0 W W' : World} {b5 n5 c5 n : Nat} {A5 : Option Addr} {M : Int → Option (List UInt8)} (h : RcAt W0 b5 A5 n5 c5 n M W) (hk : Keeps W W' []) : RcAt W0 b5 A5 n5 c5 n M W' :=
  ⟨OwnN.keeps h.own hk, h.box.keeps hk, h.k.then_ hk, h.b, h.m⟩
theorem pagesOf_take {ws : List (Int × List UInt8)} {j : Nat} (hj : j < ws.length) {p : Int} {z : List UInt8} (e : ws[j] = (p, z)) (x : Int) : pagesOf (ws.take (j + 1)) x = pagesOf (ws.take j) x ++ (if p = x then [z] else []) := by
  rw [List.take_succ_eq_append_getElem hj, pagesOf_snoc, e]
theorem str_cut (l : List UInt8) (a e : Nat) : (⟨l.toArray⟩ : ByteArray).extract a e = ⟨((l.drop a).take (e - a)).toArray⟩ := by
  apply ByteArray.ext
  rw [ByteArray.data_extract]
  apply Array.ext'
  simp
theorem graft_str {pg bq : List UInt8} {kk a e : Nat} {S1 S2 S3 : ByteArray} (h1 : pg.length = 256) (h2 : bq.length = 256) (ha : 64 * kk = a) (he : a + 64 = e) (hk : kk < 4) (e1 : (⟨pg.toArray⟩ : ByteArray).extract 0 a = S1) (e2 : (⟨bq.toArray⟩ : ByteArray).extract a e = S2) (e3 : (⟨pg.toArray⟩ : ByteArray).extract e 256 = S3) :
    ¬ 9223372036854775807 < S1.size + S2.size ∧ ¬ 9223372036854775807 < S1.size + S2.size + S3.size ∧ S1 ++ S2 ++ S3 = ⟨(graft pg bq kk).toArray⟩ := by
  subst e1 e2 e3
  rw [str_cut, str_cut, str_cut]
  have z1 : (⟨((pg.drop 0).take (a - 0)).toArray⟩ : ByteArray).size ≤ 256 := by simp only [ByteArray.size]; simp; omega
  have z2 : (⟨((bq.drop a).take (e - a)).toArray⟩ : ByteArray).size ≤ 256 := by simp only [ByteArray.size]; simp; omega
  have z3 : (⟨((pg.drop e).take (256 - e)).toArray⟩ : ByteArray).size ≤ 256 := by simp only [ByteArray.size]; simp; omega
  refine ⟨by omega, by omega, ?_⟩
  subst ha he
  have hgr : graft pg bq kk = (pg.drop 0).take (64 * kk - 0) ++ (bq.drop (64 * kk)).take (64 * kk + 64 - 64 * kk) ++ (pg.drop (64 * kk + 64)).take (256 - (64 * kk + 64)) := by
    unfold graft
    have e9 : (pg.drop (64 * kk + 64)).take (256 - (64 * kk + 64)) = pg.drop (64 * kk + 64) := List.take_of_length_le (by simp; omega)
    rw [List.drop_zero, Nat.sub_zero, show 64 * kk + 64 - 64 * kk = 64 by omega, e9]
  rw [hgr]
  apply ByteArray.ext
  simp
theorem crash_door (W : World) (t : Array Value) (b : Nat) (x0 x1 x2 x3 x4 x5 : Value) (h : t.getD 4 undef = .pointer (some ⟨b, 0, none⟩)) (r : Row W b 43 #[x0, x1, x2, x3, x4, x5]) (R : Ending → World → Prop) (hR : R (.returned (.agg #[x0, x1, x2, x3, x4, x5])) W) :
    bodyPost Try.prog Try.f24 R Exit.ret { tmps := t, defers := [] } W := by
  have c0 := r.cell 0
  have c1 := r.cell 1
  have c2 := r.cell 2
  have c3 := r.cell 3
  have c4 := r.cell 4
  have c5 := r.cell 5
  rw [Array.getD_eq_getD_getElem?] at h
  simp at c0 c1 c2 c3 c4 c5
  refine bodyPost_ret (v := .agg #[x0, x1, x2, x3, x4, x5]) ?_ rfl hR
  simp [results, Try.results24, go_sem, h, c0, c1, c2, c3, c4, c5]
set_option maxRecDepth 100000 in
set_option maxHeartbeats 1000000 in
theorem refCrash_any (w : World) (g : Value) (R : Rk) (h : RkAt w g R) (hn4 : R.lasts.length ≤ 4096) (hin : ∀ p ∈ R.waits, 0 ≤ p.1 ∧ p.1 < R.lasts.length ∧ p.2.length = 256) (h256 : ∀ b ∈ R.lasts, b.length = 256) (hw : R.waits.length ≤ 100000)
    (A0 : Option Addr) (c0 : Nat) (picks : List Int) (hp : Lies w w.heap.size A0 (picks.map encZ)) (hpl : picks.length ≤ 100000) :
    Calls Try.prog 24 #[g, .slice A0 picks.length c0] w fun e w' => ∃ g', e = .returned g' ∧ RkAt w' g' (R.crash picks) ∧ Keeps w w' [] := by
  obtain ⟨A, c, B, d, rfl, hA, hB⟩ := h.e
  have HH := Lib.hid (And.intro hin (And.intro h256 (And.intro hw (And.intro hp (And.intro hpl (And.intro hA hB))))))
  clear hA hB h hin h256 hw hp hpl
  obtain ⟨W0, hW0⟩ : ∃ W0, (w.alloc (.cells (rkRow R A c B d) 43)).alloc (.cells rkZero 43) = W0 := ⟨_, rfl⟩
  have k0 : Keeps w W0 [] := by rw [← hW0]; exact (Keeps.alloc _ _).then_alloc _
  have r0 : Row W0 w.heap.size 43 (rkRow R A c B d) := by rw [← hW0]; exact (Row.new _ _ _).alloc _
  have r1 : Row W0 (w.heap.size + 1) 43 rkZero := by
    rw [← hW0]
    have := Row.new (w.alloc (.cells (rkRow R A c B d) 43)) 43 rkZero
    rwa [World.size_alloc] at this
  have H0 := Lib.hid (And.intro k0 (And.intro r0 (And.intro r1 (And.intro (HH.out.2.2.2.2.2.1.keeps k0) (And.intro (HH.out.2.2.2.2.2.2.keeps k0) (show Lies W0 w.heap.size A0 (picks.map encZ) from HH.out.2.2.2.1.keep k0 (Nat.le_refl _) (by simp)))))))
  go_enter Try.func24, Try.ntmps24
  go_upto_region 1 with fail
  clear hW0 k0
  have y0 := r0.cell 0
  have y1 := r0.cell 1
  have y2 := r0.cell 2
  have y3 := r0.cell 3
  have y4 := r0.cell 4
  have y5 := r0.cell 5
  simp only [List.getElem?_toArray, List.getElem?_cons_zero, List.getElem?_cons_succ] at y0 y1 y2 y3 y4 y5
  clear r0 r1
  go_wp2_with (at_builtin; refine wpList_append_N elemTxt encTxt rfl (Operand.const (.slice none 0 0)) (.tmp 14) rfl W0.heap.size (.slice none 0 0) A R.lasts.length c [] R.lasts rfl rfl rfl (OwnN.nil _ _ _ _ _) (H0.out.2.2.2.1.lies encTxt) (by simp; omega) (Nat.le_refl _) ?_; intro A5 c5 w5 l5 hl5 hlen5 ho5 hk5 _)
  obtain ⟨n5, hn5⟩ : ∃ n5, l5.length = n5 := ⟨_, rfl⟩
  rw [hn5] at ho5 ⊢
  obtain ⟨W5, hW5⟩ : ∃ W5, w5.alloc (.cells #[.slice A5 n5 c5, .slice none 0 0, .int .i64 0, .int .i64 0, .bool false, .int .i64 0] 43) = W5 := ⟨_, rfl⟩
  have r5 : Row W5 w5.heap.size 43 (rkBox A5 n5 c5) := by rw [← hW5]; exact Row.new _ _ _
  have k5 : Keeps w5 W5 [] := by rw [← hW5]; exact Keeps.alloc _ _
  have e5 : l5 = R.lasts := by have := hl5.out; simpa using this
  have hsz5 := hk5.size
  have HN5 := Lib.hid (show n5 = R.lasts.length by rw [← hn5, e5])
  have HP := Lib.hid (show RcAt W0 w5.heap.size A5 n5 c5 R.lasts.length (ofList R.lasts) W5 from ⟨by rw [listOf_ofList, ← e5]; exact OwnN.keeps ho5 k5, r5, hk5.trans k5 (by simp [Value.ownBlock]), hsz5, fun x b hb => by
    unfold ofList at hb
    split at hb
    · exact HH.out.2.1 b (List.mem_of_getElem? hb)
    · cases hb⟩)
  have HPG := Lib.hid (show pgsRun R.waits 0 (ofList R.lasts) picks = (ofList R.lasts, picks) from rfl)
  have HPS := Lib.hid (show picks = picks.drop 0 from rfl)
  obtain ⟨b5, hb5⟩ : ∃ b5, w5.heap.size = b5 := ⟨_, rfl⟩
  rw [hb5] at HP ⊢
  rw [hW5]
  clear hl5 hlen5 ho5 hk5 hn5 hW5 r5 k5 e5 hsz5 hb5 y0 y1 y2 y3 y4 y5
  go_loopw [6, 7] (fun u i wr => ∃ (k uu : Nat) (M : Int → Option (List UInt8)) (ps : List Int), k ≤ R.lasts.length ∧ u = .int .i64 uu ∧ i = .int .i64 k ∧ uu ≤ 4 * k ∧ Hid (pgsRun R.waits k (ofList R.lasts) picks = (M, ps)) ∧ Hid (ps = picks.drop uu) ∧ Hid (RcAt W0 b5 A5 n5 c5 R.lasts.length M wr)) (fun _ i _ => R.lasts.length - (intOf i).toNat)
  case atStart => exact ⟨0, 0, _, _, by omega, rfl, rfl, by omega, HPG, HPS, HP⟩
  case round =>
    clear HP HPG HPS
    obtain ⟨k, uu, M, ps, hk, rfl, rfl, huu, HG, HS, HR⟩ := hrel
    have q2 := H0.out.2.1.keeps HR.out.k
    have y0 := q2.cell 0
    have y1 := q2.cell 1
    have y2 := q2.cell 2
    have y3 := q2.cell 3
    have y4 := q2.cell 4
    have y5 := q2.cell 5
    simp only [List.getElem?_toArray, List.getElem?_cons_zero, List.getElem?_cons_succ] at y0 y1 y2 y3 y4 y5
    by_cases hkl : k < R.lasts.length
    · clear q2
      obtain ⟨wq, rfl⟩ : ∃ x, x = wr := ⟨_, rfl⟩
      go_wp2_with fail
      have H8 := Lib.hid (show ([] : List (List UInt8)) = pagesOf (R.waits.take 0) k from rfl)
      have HO8 := Lib.hid (show OwnN wq wq.heap.size 9 1 txtV (.slice none ([] : List (List UInt8)).length 0) [] ∧ Keeps wq wq [] from ⟨OwnN.nil _ _ _ _ _, Keeps.refl _ _⟩)
      clear y0 y1 y2 y3 y4 y5
      go_loopw [8, 9] (fun v j wz => ∃ (jj : Nat) (A8 : Option Addr) (c8 : Nat) (l8 : List (List UInt8)), jj ≤ R.waits.length ∧ v = .slice A8 l8.length c8 ∧ j = .int .i64 jj ∧ Hid (l8 = pagesOf (R.waits.take jj) k) ∧ Hid (OwnN wz wq.heap.size 9 1 txtV (.slice A8 l8.length c8) l8 ∧ Keeps wq wz [])) (fun _ j _ => R.waits.length - (intOf j).toNat)
      case atStart => exact ⟨0, none, 0, [], by omega, rfl, rfl, H8, HO8⟩
      case round =>
        clear H8 HO8
        obtain ⟨jj, A8, c8, l8, hjj, rfl, rfl, H8, HO8⟩ := hrel
        have HRz := Lib.hid (HR.out.keeps HO8.out.2)
        have q2 := H0.out.2.1.keeps HRz.out.k
        have y0 := q2.cell 0
        have y1 := q2.cell 1
        have y2 := q2.cell 2
        have y3 := q2.cell 3
        have y4 := q2.cell 4
        have y5 := q2.cell 5
        simp only [List.getElem?_toArray, List.getElem?_cons_zero, List.getElem?_cons_succ] at y0 y1 y2 y3 y4 y5
        have hwl := HH.out.2.2.1
        have hl8 : l8.length ≤ R.waits.length := by
          rw [H8.out]
          exact Nat.le_trans (pagesOf_length _ _) (by simp; omega)
        by_cases hjl : jj < R.waits.length
        · obtain ⟨bw, ow, rfl, hbw, hcw⟩ := (H0.out.2.2.2.2.1.keeps HRz.out.k).at_ hjl
          obtain ⟨⟨p, z⟩, hpx⟩ : ∃ px, R.waits[jj] = px := ⟨_, rfl⟩
          rw [hpx] at hcw
          have w0 := hcw 0 (by omega)
          have w1' := hcw 1 (by omega)
          simp only [waitV, List.getElem?_cons_zero, List.getElem?_cons_succ, Nat.add_zero] at w0 w1'
          have HST := Lib.hid (pagesOf_take hjl hpx (k : Int))
          clear hcw hpx hbw q2
          by_cases hpn : p = (k : Int)
          · have hpn' : (p == (k : Int)) = true := by simpa using hpn
            obtain ⟨Wa, hWa⟩ : ∃ Wa, wr.alloc (.cells #[.string ⟨z.toArray⟩] 9) = Wa := ⟨_, rfl⟩
            have ra : Row Wa wr.heap.size 9 #[.string ⟨z.toArray⟩] := by rw [← hWa]; exact Row.new _ _ _
            have ka : Keeps wr Wa [] := by rw [← hWa]; exact Keeps.alloc _ _
            have HA := Lib.hid (And.intro (OwnN.keeps HO8.out.1 ka) (And.intro ra (HO8.out.2.then_ ka)))
            have HLa := Lib.hid (show Lies Wa Wa.heap.size (some ⟨wr.heap.size, 0, none⟩) ([z].flatMap txtV) from lies_of_row ra rfl)
            clear ra ka
            go_wp2_with (at_builtin; refine wpList_append_N elemTxt encTxt rfl (.tmp 39) (.tmp 46) rfl wq.heap.size (.slice A8 l8.length c8) (some ⟨wr.heap.size, 0, none⟩) 1 1 l8 [z] rfl rfl rfl HA.out.1 HLa.out (by simp; omega) HA.out.2.2.size ?_; intro A9 c9 w9 l9 hl9 hlen9 ho9 hk9 _; have H9 := Lib.hid (show l9 = pagesOf (R.waits.take (jj + 1)) k ∧ OwnN w9 wq.heap.size 9 1 txtV (.slice A9 l9.length c9) l9 ∧ Keeps wq w9 [] from ⟨by rw [hl9.out, HST.out, if_pos hpn, H8.out], ho9, HA.out.2.2.trans hk9 (fun y hy hlt => absurd (OwnN.rows HA.out.1 y hy).1 (by omega))⟩); clear hl9 ho9 hk9)
            exact ⟨⟨jj + 1, A9, c9, l9, by omega, rfl, by go_num, Lib.hid H9.out.1, Lib.hid H9.out.2⟩, by simp [intOf]; omega⟩
          · have hpn' : (p == (k : Int)) = false := by simpa using hpn
            go_wp2_with fail
            exact ⟨⟨jj + 1, A8, c8, l8, by omega, rfl, by go_num, Lib.hid (by rw [HST.out, if_neg hpn, List.append_nil]; exact H8.out), HO8⟩, by simp [intOf]; omega⟩
        · obtain rfl : jj = R.waits.length := by omega
          have HL8 := Lib.hid (show l8 = pagesOf R.waits k by have := H8.out; rwa [List.take_length] at this)
          clear H8 hjl hjj q2
          obtain ⟨wp, rfl⟩ : ∃ x, x = wr := ⟨_, rfl⟩
          go_wp2_with fail
          have HE0 := Lib.hid (show l8 = [] → (0 : Nat) = 0 from fun _ => rfl)
          have HE1 := Lib.hid (show secRun R.waits ((four (k : Int)).take 0) M ps = (M, ps) from rfl)
          have HE2 := Lib.hid (show RcAt W0 b5 A5 n5 c5 R.lasts.length M wp ∧ OwnN wp wq.heap.size 9 1 txtV (.slice A8 l8.length c8) l8 from ⟨HRz.out, HO8.out.1⟩)
          have HE3 := Lib.hid (show uu = uu + 0 from rfl)
          have hpl := HH.out.2.2.2.2.1
          clear y0 y1 y2 y3 y4 y5
          go_loopw [6, 10] (fun u i wr => ∃ (kk u2 : Nat) (M2 : Int → Option (List UInt8)) (ps2 : List Int), kk ≤ 4 ∧ u = .int .i64 u2 ∧ i = .int .i64 kk ∧ Hid (u2 = uu + kk) ∧ Hid (l8 = [] → kk = 0) ∧ Hid (secRun R.waits ((four (k : Int)).take kk) M ps = (M2, ps2)) ∧ Hid (ps2 = picks.drop u2) ∧ Hid (RcAt W0 b5 A5 n5 c5 R.lasts.length M2 wr ∧ OwnN wr wq.heap.size 9 1 txtV (.slice A8 l8.length c8) l8)) (fun _ i _ => 4 - (intOf i).toNat)
          case atStart => exact ⟨0, uu, M, ps, by omega, rfl, rfl, HE3, HE0, HE1, HS, HE2⟩
          case round =>
            clear HE0 HE1 HE2 HE3
            obtain ⟨kk, u2, M2, ps2, hkk, rfl, rfl, HU, HE0, HE1, HS2, HE2⟩ := hrel
            have hub : u2 ≤ 20000 := by have := HU.out; omega
            by_cases h4 : kk < 4
            · by_cases hl0 : l8 = []
              · have hl0' : l8.length = 0 := by rw [hl0]; rfl
                have HFin := Lib.hid (show pgsRun R.waits (k + 1) (ofList R.lasts) picks = (M2, ps2) by
                  rw [pgsRun_succ, HG.out]
                  unfold pgRun
                  rw [if_pos (by rw [← HL8.out, hl0])]
                  have h0 := HE0.out hl0
                  subst h0
                  exact HE1.out)
                clear hl0
                go_wp2_with fail
                exact ⟨⟨k + 1, u2, M2, ps2, by omega, rfl, by go_num, by have := HU.out; omega, HFin, HS2, Lib.hid HE2.out.1⟩, by simp [intOf]; omega⟩
              · have hl8p : 0 < l8.length := List.length_pos_iff.2 hl0
                have hl8d : decide (0 < l8.length) = true := by simpa using hl8p
                have hnext : secRun R.waits ((four (k : Int)).take (kk + 1)) M ps = secStep R.waits (M2, ps2) ((k : Int), kk) := by
                  rw [four_take h4, secRun_snoc, HE1.out]
                have HNX := Lib.hid hnext
                have HL0 := Lib.hid hl0
                have hpk : (pagesOf R.waits k).length = l8.length := by rw [← HL8.out]
                have HPK := Lib.hid hpk
                clear hnext hl0 hpk
                by_cases hup : u2 < picks.length
                · obtain ⟨bp, op, rfl, hbp, hcp⟩ := H0.out.2.2.2.2.2.at_ (k := u2) (by simpa using hup)
                  have hcp' := (HE2.out.1.k.cell (p := ⟨bp, op + u2, none⟩) (Nat.lt_of_lt_of_le hbp H0.out.1.size) (by simp)).trans hcp
                  obtain ⟨p, hp⟩ : ∃ p, picks[u2] = p := ⟨_, rfl⟩
                  rw [List.getElem_map, hp] at hcp'
                  simp only [encZ] at hcp'
                  have HPS2 := Lib.hid (show ps2 = p :: picks.drop (u2 + 1) by rw [HS2.out, List.drop_eq_getElem_cons hup, hp])
                  obtain ⟨r, hr⟩ : ∃ r, p.tmod ((l8.length : Int) + 1) = r := ⟨_, rfl⟩
                  have b1 := Int.lt_tmod_of_pos p (show 0 < (l8.length : Int) + 1 by omega)
                  have b2 := Int.tmod_lt_of_pos p (show 0 < (l8.length : Int) + 1 by omega)
                  have hro := roundOf_ref (p := p) (m := l8.length)
                  rw [hr] at b1 b2 hro
                  have HRO := Lib.hid hro
                  have hz1 : (l8.length : Int) + 1 ≠ 0 := by omega
                  have hz2 : ¬ ((l8.length : Int) + 1 = -1) := by omega
                  clear hcp hbp hp hro
                  by_cases hrn : r < 0
                  · obtain ⟨q, hq⟩ : ∃ q : Nat, r + (l8.length : Int) = q := ⟨(r + l8.length).toNat, by omega⟩
                    have HRQ := Lib.hid (show roundOf p l8.length = (q : Int) + 1 by rw [HRO.out, if_pos hrn]; omega)
                    go_upto_region 21 with fail
                    have hkM : k < (listOf R.lasts.length M2).length := by rw [listOf_length]; exact hkl
                    obtain ⟨g5, cur5, rfl, -, hg5, hr5, hc5, -⟩ := OwnN.one (q := fun l : List UInt8 => Value.string ⟨l.toArray⟩) (fun _ => rfl) HE2.out.1.own hkM
                    obtain ⟨pg, hpg⟩ : ∃ pg, (M2 (k : Int)).getD nought = pg := ⟨_, rfl⟩
                    rw [listOf_get, hpg] at hc5
                    have hpgl : pg.length = 256 := by
                      rw [← hpg]
                      cases hm : M2 (k : Int) with
                      | none => exact nought_length
                      | some b => exact HE2.out.1.m _ _ hm
                    have hql : q < l8.length := by omega
                    obtain ⟨g8, cur8, rfl, -, hg8, hr8, hc8, -⟩ := OwnN.one (q := fun l : List UInt8 => Value.string ⟨l.toArray⟩) (fun _ => rfl) HE2.out.2 hql
                    obtain ⟨bq, hbq⟩ : ∃ bq, l8[q] = bq := ⟨_, rfl⟩
                    rw [hbq] at hc8
                    have hbql : bq.length = 256 := by
                      have h1 : bq ∈ pagesOf R.waits k := by rw [← HL8.out, ← hbq]; exact List.getElem_mem hql
                      exact (HH.out.1 _ (pagesOf_in h1)).2.2
                    have hstep : secStep R.waits (M2, p :: picks.drop (u2 + 1)) ((k : Int), kk) = (fun y => if y = (k : Int) then some (graft pg bq kk) else M2 y, picks.drop (u2 + 1)) := secStep_pick HRQ.out HPK.out (by rw [← HL8.out, List.getD_eq_getElem?_getD, List.getElem?_eq_getElem hql, hbq]; rfl) hpg
                    have HST := Lib.hid hstep
                    have HPL := Lib.hid (And.intro hpgl hbql)
                    have q5 := hr5.cell k
                    rw [hc5] at q5
                    have q8 := hr8.cell q
                    rw [hc8] at q8
                    have qx := HE2.out.1.box
                    have x0 := qx.cell 0
                    simp only [List.getElem?_toArray, List.getElem?_cons_zero] at x0
                    have hk5 : k < n5 := by rw [HN5.out]; exact hkl
                    have MX := fun (W' : World) (hW : Keeps wr W' []) => (qx.keeps hW).cell 0
                    simp only [List.getElem?_toArray, List.getElem?_cons_zero] at MX
                    have M8 := fun (W' : World) (hW : Keeps wr W' []) => ((hr8.keeps hW).cell q).trans hc8
                    have H58 := Lib.hid (And.intro hr5 (And.intro hc5 (And.intro hg5 (And.intro hr8 (And.intro hc8 hg8)))))
                    have hg5q : g5 < wq.heap.size := by
                      obtain ⟨g7, c7, e7, -, -, hr7, -, -⟩ := OwnN.one (q := fun l : List UInt8 => Value.string ⟨l.toArray⟩) (fun _ => rfl) HR.out.own (by rw [listOf_length]; exact hkl)
                      injection e7 with e7
                      injection e7 with e7
                      subst e7
                      exact hr7.lt
                    obtain ⟨a, ha⟩ : ∃ a : Nat, 64 * kk = a := ⟨_, rfl⟩
                    obtain ⟨e, he⟩ : ∃ e : Nat, a + 64 = e := ⟨_, rfl⟩
                    have hwa : IntKind.i64.wrap (64 * (kk : Int)) = (a : Int) := by rw [IntWalk.i64_in _ (by omega)]; omega
                    have hwe : IntKind.i64.wrap ((a : Int) + 64) = (e : Int) := by rw [IntWalk.i64_in _ (by omega)]; omega
                    have hwq : IntKind.i64.wrap (q : Int) = (q : Int) := IntWalk.i64_in _ (by omega)
                    have ha1 : (a : Int) ≤ 256 := by omega
                    have he1 : (e : Int) ≤ 256 := by omega
                    have hae : (a : Int) ≤ (e : Int) := by omega
                    obtain ⟨S1, hS1⟩ : ∃ S : ByteArray, (⟨pg.toArray⟩ : ByteArray).extract 0 a = S := ⟨_, rfl⟩
                    obtain ⟨S2, hS2⟩ : ∃ S : ByteArray, (⟨bq.toArray⟩ : ByteArray).extract a e = S := ⟨_, rfl⟩
                    obtain ⟨S3, hS3⟩ : ∃ S : ByteArray, (⟨pg.toArray⟩ : ByteArray).extract e 256 = S := ⟨_, rfl⟩
                    obtain ⟨hz3, hz4, hSS⟩ := graft_str hpgl hbql ha he h4 hS1 hS2 hS3
                    have HSS := Lib.hid (And.intro hSS ha)
                    clear hr5 hc5 hg5 hr8 hc8 hg8 hpg hbq qx hstep hSS ha he
                    go_wp2_with fail
                    refine wp_region_tail KeepsAll _ 25 (by kernel_rfl) rfl (by kernel_rfl) (fun _ => Keeps.refl _ _) (fun _ _ _ h k => h.trans k (by simp)) (Keeps.drew _) ?_
                    simp only [List.take_succ_cons, List.take_zero, List.drop_succ_cons, List.drop_zero]
                    apply loose_is
                    · intro W vals hW hkn
                      clear hkn
                      refine ⟨?_⟩
                      simp only [fill]
                      go_simp
                      first | exact ⟨Keeps.refl _ _, rfl⟩ | exact ⟨Keeps.alloc _ _, rfl⟩
                    simp only [addEnt]
                    apply loose_is
                    · intro W vals hW hkn
                      clear hkn
                      refine ⟨?_⟩
                      simp only [fill]
                      go_simp
                      first | exact ⟨Keeps.refl _ _, rfl⟩ | exact ⟨Keeps.alloc _ _, rfl⟩
                    simp only [addEnt]
                    apply loose_is
                    · intro W vals hW hkn
                      clear hkn
                      refine ⟨?_⟩
                      simp only [fill]
                      go_simp
                      first | exact ⟨Keeps.refl _ _, rfl⟩ | exact ⟨Keeps.alloc _ _, rfl⟩
                    simp only [addEnt]
                    apply loose_is
                    · intro W vals hW hkn
                      clear hkn
                      refine ⟨?_⟩
                      simp only [fill]
                      go_simp
                      first | exact ⟨Keeps.refl _ _, rfl⟩ | exact ⟨Keeps.alloc _ _, rfl⟩
                    simp only [addEnt]
                    apply loose_is
                    · intro W vals hW hkn
                      clear hkn
                      refine ⟨?_⟩
                      simp only [fill]
                      go_simp
                      first | exact ⟨Keeps.refl _ _, rfl⟩ | exact ⟨Keeps.alloc _ _, rfl⟩
                    simp only [addEnt]
                    apply loose_is
                    · intro W vals hW hkn
                      clear hkn
                      refine ⟨?_⟩
                      simp only [fill]
                      go_simp
                      first | exact ⟨Keeps.refl _ _, rfl⟩ | exact ⟨Keeps.alloc _ _, rfl⟩
                    simp only [addEnt]
                    apply loose_is
                    · intro W vals hW hkn
                      clear hkn
                      refine ⟨?_⟩
                      simp only [fill]
                      go_simp
                      first | exact ⟨Keeps.refl _ _, rfl⟩ | exact ⟨Keeps.alloc _ _, rfl⟩
                    simp only [addEnt]
                    apply loose_is
                    · intro W vals hW hkn
                      clear hkn
                      refine ⟨?_⟩
                      simp only [fill]
                      go_simp
                      first | exact ⟨Keeps.refl _ _, rfl⟩ | exact ⟨Keeps.alloc _ _, rfl⟩
                    simp only [addEnt]
                    apply loose_is
                    · intro W vals hW hkn
                      clear hkn
                      refine ⟨?_⟩
                      simp only [fill]
                      go_simp
                      first | exact ⟨Keeps.refl _ _, rfl⟩ | exact ⟨Keeps.alloc _ _, rfl⟩
                    simp only [addEnt]
                    apply loose_is
                    · intro W vals hW hkn
                      clear hkn
                      refine ⟨?_⟩
                      simp only [fill]
                      go_simp
                      first | exact ⟨Keeps.refl _ _, rfl⟩ | exact ⟨Keeps.alloc _ _, rfl⟩
                    simp only [addEnt]
                    apply loose_is
                    · intro W vals hW hkn
                      clear hkn
                      refine ⟨?_⟩
                      simp only [fill]
                      go_simp
                      first | exact ⟨Keeps.refl _ _, rfl⟩ | exact ⟨Keeps.alloc _ _, rfl⟩
                    simp only [addEnt]
                    apply loose_is
                    · intro W vals hW hkn
                      clear hkn
                      refine ⟨?_⟩
                      simp only [fill]
                      go_simp
                      first | exact ⟨Keeps.refl _ _, rfl⟩ | exact ⟨Keeps.alloc _ _, rfl⟩
                    simp only [addEnt]
                    apply loose_is
                    · intro W vals hW hkn
                      clear hkn
                      refine ⟨?_⟩
                      simp only [fill]
                      go_simp
                      first | exact ⟨Keeps.refl _ _, rfl⟩ | exact ⟨Keeps.alloc _ _, rfl⟩
                    simp only [addEnt]
                    apply loose_is
                    · intro W vals hW hkn
                      clear hkn
                      refine ⟨?_⟩
                      simp only [fill]
                      go_simp
                      first | exact ⟨Keeps.refl _ _, rfl⟩ | exact ⟨Keeps.alloc _ _, rfl⟩
                    simp only [addEnt]
                    apply loose_is
                    · intro W vals hW hkn
                      clear hkn
                      refine ⟨?_⟩
                      simp only [fill]
                      go_simp
                      first | exact ⟨Keeps.refl _ _, rfl⟩ | exact ⟨Keeps.alloc _ _, rfl⟩
                    simp only [addEnt]
                    apply loose_is
                    · intro W vals hW hkn
                      clear hkn
                      refine ⟨?_⟩
                      simp only [fill]
                      go_simp
                      first | exact ⟨Keeps.refl _ _, rfl⟩ | exact ⟨Keeps.alloc _ _, rfl⟩
                    simp only [addEnt]
                    apply loose_is
                    · intro W vals hW hkn
                      clear hkn
                      refine ⟨?_⟩
                      simp only [fill]
                      go_simp
                      first | exact ⟨Keeps.refl _ _, rfl⟩ | exact ⟨Keeps.alloc _ _, rfl⟩
                    simp only [addEnt]
                    apply loose_is
                    · intro W vals hW hkn
                      clear hkn
                      refine ⟨?_⟩
                      simp only [fill]
                      go_simp
                      first | exact ⟨Keeps.refl _ _, rfl⟩ | exact ⟨Keeps.alloc _ _, rfl⟩
                    simp only [addEnt]
                    apply loose_is
                    · intro W vals hW hkn
                      clear hkn
                      refine ⟨?_⟩
                      simp only [fill]
                      go_simp
                      first | exact ⟨Keeps.refl _ _, rfl⟩ | exact ⟨Keeps.alloc _ _, rfl⟩
                    simp only [addEnt]
                    apply loose_is
                    · intro W vals hW hkn
                      clear hkn
                      refine ⟨?_⟩
                      simp only [fill]
                      go_simp
                      first | exact ⟨Keeps.refl _ _, rfl⟩ | exact ⟨Keeps.alloc _ _, rfl⟩
                    simp only [addEnt]
                    apply loose_is
                    · intro W vals hW hkn
                      clear hkn
                      refine ⟨?_⟩
                      simp only [fill]
                      go_simp
                      first | exact ⟨Keeps.refl _ _, rfl⟩ | exact ⟨Keeps.alloc _ _, rfl⟩
                    simp only [addEnt]
                    apply loose_is
                    · intro W vals hW hkn
                      clear hkn
                      refine ⟨?_⟩
                      simp only [fill]
                      go_simp
                      first | exact ⟨Keeps.refl _ _, rfl⟩ | exact ⟨Keeps.alloc _ _, rfl⟩
                    simp only [addEnt]
                    apply loose_is
                    · intro W vals hW hkn
                      clear hkn
                      refine ⟨?_⟩
                      simp only [fill]
                      go_simp
                      first | exact ⟨Keeps.refl _ _, rfl⟩ | exact ⟨Keeps.alloc _ _, rfl⟩
                    simp only [addEnt]
                    apply loose_is
                    · intro W vals hW hkn
                      clear hkn
                      refine ⟨?_⟩
                      simp only [fill]
                      go_simp
                      first | exact ⟨Keeps.refl _ _, rfl⟩ | exact ⟨Keeps.alloc _ _, rfl⟩
                    simp only [addEnt]
                    apply loose_is
                    · intro W vals hW hkn
                      clear hkn
                      refine ⟨?_⟩
                      simp only [fill]
                      go_simp
                      first | exact ⟨Keeps.refl _ _, rfl⟩ | exact ⟨Keeps.alloc _ _, rfl⟩
                    simp only [addEnt]
                    refine loose_nil (fun W vals hW hkn => ?_)
                    simp only [knowsAll] at hkn
                    try simp only [and_true] at hkn
                    simp only [fill, Act.put, List.setIfInBounds_toArray, List.set_cons_succ, List.set_cons_zero]
                    obtain ⟨g6, cur6, e6, -, hg6, hr6, hc6, hput⟩ := OwnN.one (q := fun l : List UInt8 => Value.string ⟨l.toArray⟩) (fun _ => rfl) (OwnN.keeps HE2.out.1.own hW) hkM
                    injection e6 with e6
                    injection e6 with e6
                    subst e6
                    have hcs := (hr6.cell k).trans hc6
                    have hfz := hr6.frozen k
                    have HW := Lib.hid (And.intro (hput (graft pg bq kk)) (And.intro hr6 (And.intro hg6 (HE2.out.1.keeps hW))))
                    have HW8 := Lib.hid (And.intro (OwnN.keeps HE2.out.2 hW) hg5q)
                    clear hkn hput hr6 hc6 hg6 hW MX M8 hg5q
                    go_wp2_with fail
                    have kk9 := Keeps.setCell W ⟨g5, k, none⟩ (.string (S1 ++ S2 ++ S3))
                    refine ⟨⟨kk + 1, u2 + 1, fun y => if y = (k : Int) then some (graft pg bq kk) else M2 y, picks.drop (u2 + 1), by omega, by go_num, by go_num, Lib.hid (by have := HU.out; omega), Lib.hid (fun h => absurd h HL0.out), Lib.hid (by rw [HNX.out, HPS2.out, HST.out]), Lib.hid rfl, Lib.hid ⟨⟨?_, ?_, ?_, HE2.out.1.b, ?_⟩, ?_⟩⟩, by simp [intOf]; omega⟩
                    · rw [listOf_set, HSS.out.1]
                      exact HW.out.1
                    · exact HW.out.2.2.2.box.keep kk9 (by have := Row.ne_type HW.out.2.2.2.box HW.out.2.1 (by decide); simpa using this)
                    · exact HW.out.2.2.2.k.trans kk9 (fun y hy hlt => by simp at hy; have := HW.out.2.2.1; omega)
                    · intro x b hb
                      split at hb
                      · injection hb with hb
                        rw [← hb]
                        exact graft_length hpgl hbql h4
                      · exact HE2.out.1.m x b hb
                    · exact OwnN.keep HW8.out.1 kk9 (fun x hx => .inl (by obtain rfl := List.mem_singleton.1 hx; exact HW8.out.2))
                  · by_cases hr0 : r = 0
                    · subst hr0
                      have HT := Lib.hid (show secRun R.waits ((four (k : Int)).take (kk + 1)) M ps = (M2, picks.drop (u2 + 1)) by
                        rw [HNX.out, HPS2.out]
                        unfold secStep
                        simp only
                        rw [HPK.out, HRO.out, if_neg hrn, if_pos rfl])
                      go_wp2_with fail
                      exact ⟨⟨kk + 1, u2 + 1, M2, picks.drop (u2 + 1), by omega, by go_num, by go_num, Lib.hid (by have := HU.out; omega), Lib.hid (fun h => absurd h HL0.out), HT, Lib.hid rfl, HE2⟩, by simp [intOf]; omega⟩
                    · obtain ⟨q, rfl⟩ : ∃ q : Nat, r = q + 1 := ⟨(r - 1).toNat, by omega⟩
                      have HRQ := Lib.hid (show roundOf p l8.length = (q : Int) + 1 by rw [HRO.out, if_neg hrn])
                      go_upto_region 21 with fail
                      have hkM : k < (listOf R.lasts.length M2).length := by rw [listOf_length]; exact hkl
                      obtain ⟨g5, cur5, rfl, -, hg5, hr5, hc5, -⟩ := OwnN.one (q := fun l : List UInt8 => Value.string ⟨l.toArray⟩) (fun _ => rfl) HE2.out.1.own hkM
                      obtain ⟨pg, hpg⟩ : ∃ pg, (M2 (k : Int)).getD nought = pg := ⟨_, rfl⟩
                      rw [listOf_get, hpg] at hc5
                      have hpgl : pg.length = 256 := by
                        rw [← hpg]
                        cases hm : M2 (k : Int) with
                        | none => exact nought_length
                        | some b => exact HE2.out.1.m _ _ hm
                      have hql : q < l8.length := by omega
                      obtain ⟨g8, cur8, rfl, -, hg8, hr8, hc8, -⟩ := OwnN.one (q := fun l : List UInt8 => Value.string ⟨l.toArray⟩) (fun _ => rfl) HE2.out.2 hql
                      obtain ⟨bq, hbq⟩ : ∃ bq, l8[q] = bq := ⟨_, rfl⟩
                      rw [hbq] at hc8
                      have hbql : bq.length = 256 := by
                        have h1 : bq ∈ pagesOf R.waits k := by rw [← HL8.out, ← hbq]; exact List.getElem_mem hql
                        exact (HH.out.1 _ (pagesOf_in h1)).2.2
                      have hstep : secStep R.waits (M2, p :: picks.drop (u2 + 1)) ((k : Int), kk) = (fun y => if y = (k : Int) then some (graft pg bq kk) else M2 y, picks.drop (u2 + 1)) := secStep_pick HRQ.out HPK.out (by rw [← HL8.out, List.getD_eq_getElem?_getD, List.getElem?_eq_getElem hql, hbq]; rfl) hpg
                      have HST := Lib.hid hstep
                      have HPL := Lib.hid (And.intro hpgl hbql)
                      have q5 := hr5.cell k
                      rw [hc5] at q5
                      have q8 := hr8.cell q
                      rw [hc8] at q8
                      have qx := HE2.out.1.box
                      have x0 := qx.cell 0
                      simp only [List.getElem?_toArray, List.getElem?_cons_zero] at x0
                      have hk5 : k < n5 := by rw [HN5.out]; exact hkl
                      have MX := fun (W' : World) (hW : Keeps wr W' []) => (qx.keeps hW).cell 0
                      simp only [List.getElem?_toArray, List.getElem?_cons_zero] at MX
                      have M8 := fun (W' : World) (hW : Keeps wr W' []) => ((hr8.keeps hW).cell q).trans hc8
                      have H58 := Lib.hid (And.intro hr5 (And.intro hc5 (And.intro hg5 (And.intro hr8 (And.intro hc8 hg8)))))
                      have hg5q : g5 < wq.heap.size := by
                        obtain ⟨g7, c7, e7, -, -, hr7, -, -⟩ := OwnN.one (q := fun l : List UInt8 => Value.string ⟨l.toArray⟩) (fun _ => rfl) HR.out.own (by rw [listOf_length]; exact hkl)
                        injection e7 with e7
                        injection e7 with e7
                        subst e7
                        exact hr7.lt
                      obtain ⟨a, ha⟩ : ∃ a : Nat, 64 * kk = a := ⟨_, rfl⟩
                      obtain ⟨e, he⟩ : ∃ e : Nat, a + 64 = e := ⟨_, rfl⟩
                      have hwa : IntKind.i64.wrap (64 * (kk : Int)) = (a : Int) := by rw [IntWalk.i64_in _ (by omega)]; omega
                      have hwe : IntKind.i64.wrap ((a : Int) + 64) = (e : Int) := by rw [IntWalk.i64_in _ (by omega)]; omega
                      have hwq : IntKind.i64.wrap (q : Int) = (q : Int) := IntWalk.i64_in _ (by omega)
                      have ha1 : (a : Int) ≤ 256 := by omega
                      have he1 : (e : Int) ≤ 256 := by omega
                      have hae : (a : Int) ≤ (e : Int) := by omega
                      obtain ⟨S1, hS1⟩ : ∃ S : ByteArray, (⟨pg.toArray⟩ : ByteArray).extract 0 a = S := ⟨_, rfl⟩
                      obtain ⟨S2, hS2⟩ : ∃ S : ByteArray, (⟨bq.toArray⟩ : ByteArray).extract a e = S := ⟨_, rfl⟩
                      obtain ⟨S3, hS3⟩ : ∃ S : ByteArray, (⟨pg.toArray⟩ : ByteArray).extract e 256 = S := ⟨_, rfl⟩
                      obtain ⟨hz3, hz4, hSS⟩ := graft_str hpgl hbql ha he h4 hS1 hS2 hS3
                      have HSS := Lib.hid (And.intro hSS ha)
                      clear hr5 hc5 hg5 hr8 hc8 hg8 hpg hbq qx hstep hSS ha he
                      go_wp2_with fail
                      refine wp_region_tail KeepsAll _ 25 (by kernel_rfl) rfl (by kernel_rfl) (fun _ => Keeps.refl _ _) (fun _ _ _ h k => h.trans k (by simp)) (Keeps.drew _) ?_
                      simp only [List.take_succ_cons, List.take_zero, List.drop_succ_cons, List.drop_zero]
                      apply loose_is
                      · intro W vals hW hkn
                        clear hkn
                        refine ⟨?_⟩
                        simp only [fill]
                        go_simp
                        first | exact ⟨Keeps.refl _ _, rfl⟩ | exact ⟨Keeps.alloc _ _, rfl⟩
                      simp only [addEnt]
                      apply loose_is
                      · intro W vals hW hkn
                        clear hkn
                        refine ⟨?_⟩
                        simp only [fill]
                        go_simp
                        first | exact ⟨Keeps.refl _ _, rfl⟩ | exact ⟨Keeps.alloc _ _, rfl⟩
                      simp only [addEnt]
                      apply loose_is
                      · intro W vals hW hkn
                        clear hkn
                        refine ⟨?_⟩
                        simp only [fill]
                        go_simp
                        first | exact ⟨Keeps.refl _ _, rfl⟩ | exact ⟨Keeps.alloc _ _, rfl⟩
                      simp only [addEnt]
                      apply loose_is
                      · intro W vals hW hkn
                        clear hkn
                        refine ⟨?_⟩
                        simp only [fill]
                        go_simp
                        first | exact ⟨Keeps.refl _ _, rfl⟩ | exact ⟨Keeps.alloc _ _, rfl⟩
                      simp only [addEnt]
                      apply loose_is
                      · intro W vals hW hkn
                        clear hkn
                        refine ⟨?_⟩
                        simp only [fill]
                        go_simp
                        first | exact ⟨Keeps.refl _ _, rfl⟩ | exact ⟨Keeps.alloc _ _, rfl⟩
                      simp only [addEnt]
                      apply loose_is
                      · intro W vals hW hkn
                        clear hkn
                        refine ⟨?_⟩
                        simp only [fill]
                        go_simp
                        first | exact ⟨Keeps.refl _ _, rfl⟩ | exact ⟨Keeps.alloc _ _, rfl⟩
                      simp only [addEnt]
                      apply loose_is
                      · intro W vals hW hkn
                        clear hkn
                        refine ⟨?_⟩
                        simp only [fill]
                        go_simp
                        first | exact ⟨Keeps.refl _ _, rfl⟩ | exact ⟨Keeps.alloc _ _, rfl⟩
                      simp only [addEnt]
                      apply loose_is
                      · intro W vals hW hkn
                        clear hkn
                        refine ⟨?_⟩
                        simp only [fill]
                        go_simp
                        first | exact ⟨Keeps.refl _ _, rfl⟩ | exact ⟨Keeps.alloc _ _, rfl⟩
                      simp only [addEnt]
                      apply loose_is
                      · intro W vals hW hkn
                        clear hkn
                        refine ⟨?_⟩
                        simp only [fill]
                        go_simp
                        first | exact ⟨Keeps.refl _ _, rfl⟩ | exact ⟨Keeps.alloc _ _, rfl⟩
                      simp only [addEnt]
                      apply loose_is
                      · intro W vals hW hkn
                        clear hkn
                        refine ⟨?_⟩
                        simp only [fill]
                        go_simp
                        first | exact ⟨Keeps.refl _ _, rfl⟩ | exact ⟨Keeps.alloc _ _, rfl⟩
                      simp only [addEnt]
                      apply loose_is
                      · intro W vals hW hkn
                        clear hkn
                        refine ⟨?_⟩
                        simp only [fill]
                        go_simp
                        first | exact ⟨Keeps.refl _ _, rfl⟩ | exact ⟨Keeps.alloc _ _, rfl⟩
                      simp only [addEnt]
                      apply loose_is
                      · intro W vals hW hkn
                        clear hkn
                        refine ⟨?_⟩
                        simp only [fill]
                        go_simp
                        first | exact ⟨Keeps.refl _ _, rfl⟩ | exact ⟨Keeps.alloc _ _, rfl⟩
                      simp only [addEnt]
                      apply loose_is
                      · intro W vals hW hkn
                        clear hkn
                        refine ⟨?_⟩
                        simp only [fill]
                        go_simp
                        first | exact ⟨Keeps.refl _ _, rfl⟩ | exact ⟨Keeps.alloc _ _, rfl⟩
                      simp only [addEnt]
                      apply loose_is
                      · intro W vals hW hkn
                        clear hkn
                        refine ⟨?_⟩
                        simp only [fill]
                        go_simp
                        first | exact ⟨Keeps.refl _ _, rfl⟩ | exact ⟨Keeps.alloc _ _, rfl⟩
                      simp only [addEnt]
                      apply loose_is
                      · intro W vals hW hkn
                        clear hkn
                        refine ⟨?_⟩
                        simp only [fill]
                        go_simp
                        first | exact ⟨Keeps.refl _ _, rfl⟩ | exact ⟨Keeps.alloc _ _, rfl⟩
                      simp only [addEnt]
                      apply loose_is
                      · intro W vals hW hkn
                        clear hkn
                        refine ⟨?_⟩
                        simp only [fill]
                        go_simp
                        first | exact ⟨Keeps.refl _ _, rfl⟩ | exact ⟨Keeps.alloc _ _, rfl⟩
                      simp only [addEnt]
                      apply loose_is
                      · intro W vals hW hkn
                        clear hkn
                        refine ⟨?_⟩
                        simp only [fill]
                        go_simp
                        first | exact ⟨Keeps.refl _ _, rfl⟩ | exact ⟨Keeps.alloc _ _, rfl⟩
                      simp only [addEnt]
                      apply loose_is
                      · intro W vals hW hkn
                        clear hkn
                        refine ⟨?_⟩
                        simp only [fill]
                        go_simp
                        first | exact ⟨Keeps.refl _ _, rfl⟩ | exact ⟨Keeps.alloc _ _, rfl⟩
                      simp only [addEnt]
                      apply loose_is
                      · intro W vals hW hkn
                        clear hkn
                        refine ⟨?_⟩
                        simp only [fill]
                        go_simp
                        first | exact ⟨Keeps.refl _ _, rfl⟩ | exact ⟨Keeps.alloc _ _, rfl⟩
                      simp only [addEnt]
                      apply loose_is
                      · intro W vals hW hkn
                        clear hkn
                        refine ⟨?_⟩
                        simp only [fill]
                        go_simp
                        first | exact ⟨Keeps.refl _ _, rfl⟩ | exact ⟨Keeps.alloc _ _, rfl⟩
                      simp only [addEnt]
                      apply loose_is
                      · intro W vals hW hkn
                        clear hkn
                        refine ⟨?_⟩
                        simp only [fill]
                        go_simp
                        first | exact ⟨Keeps.refl _ _, rfl⟩ | exact ⟨Keeps.alloc _ _, rfl⟩
                      simp only [addEnt]
                      apply loose_is
                      · intro W vals hW hkn
                        clear hkn
                        refine ⟨?_⟩
                        simp only [fill]
                        go_simp
                        first | exact ⟨Keeps.refl _ _, rfl⟩ | exact ⟨Keeps.alloc _ _, rfl⟩
                      simp only [addEnt]
                      apply loose_is
                      · intro W vals hW hkn
                        clear hkn
                        refine ⟨?_⟩
                        simp only [fill]
                        go_simp
                        first | exact ⟨Keeps.refl _ _, rfl⟩ | exact ⟨Keeps.alloc _ _, rfl⟩
                      simp only [addEnt]
                      apply loose_is
                      · intro W vals hW hkn
                        clear hkn
                        refine ⟨?_⟩
                        simp only [fill]
                        go_simp
                        first | exact ⟨Keeps.refl _ _, rfl⟩ | exact ⟨Keeps.alloc _ _, rfl⟩
                      simp only [addEnt]
                      apply loose_is
                      · intro W vals hW hkn
                        clear hkn
                        refine ⟨?_⟩
                        simp only [fill]
                        go_simp
                        first | exact ⟨Keeps.refl _ _, rfl⟩ | exact ⟨Keeps.alloc _ _, rfl⟩
                      simp only [addEnt]
                      refine loose_nil (fun W vals hW hkn => ?_)
                      simp only [knowsAll] at hkn
                      try simp only [and_true] at hkn
                      simp only [fill, Act.put, List.setIfInBounds_toArray, List.set_cons_succ, List.set_cons_zero]
                      obtain ⟨g6, cur6, e6, -, hg6, hr6, hc6, hput⟩ := OwnN.one (q := fun l : List UInt8 => Value.string ⟨l.toArray⟩) (fun _ => rfl) (OwnN.keeps HE2.out.1.own hW) hkM
                      injection e6 with e6
                      injection e6 with e6
                      subst e6
                      have hcs := (hr6.cell k).trans hc6
                      have hfz := hr6.frozen k
                      have HW := Lib.hid (And.intro (hput (graft pg bq kk)) (And.intro hr6 (And.intro hg6 (HE2.out.1.keeps hW))))
                      have HW8 := Lib.hid (And.intro (OwnN.keeps HE2.out.2 hW) hg5q)
                      clear hkn hput hr6 hc6 hg6 hW MX M8 hg5q
                      go_wp2_with fail
                      have kk9 := Keeps.setCell W ⟨g5, k, none⟩ (.string (S1 ++ S2 ++ S3))
                      refine ⟨⟨kk + 1, u2 + 1, fun y => if y = (k : Int) then some (graft pg bq kk) else M2 y, picks.drop (u2 + 1), by omega, by go_num, by go_num, Lib.hid (by have := HU.out; omega), Lib.hid (fun h => absurd h HL0.out), Lib.hid (by rw [HNX.out, HPS2.out, HST.out]), Lib.hid rfl, Lib.hid ⟨⟨?_, ?_, ?_, HE2.out.1.b, ?_⟩, ?_⟩⟩, by simp [intOf]; omega⟩
                      · rw [listOf_set, HSS.out.1]
                        exact HW.out.1
                      · exact HW.out.2.2.2.box.keep kk9 (by have := Row.ne_type HW.out.2.2.2.box HW.out.2.1 (by decide); simpa using this)
                      · exact HW.out.2.2.2.k.trans kk9 (fun y hy hlt => by simp at hy; have := HW.out.2.2.1; omega)
                      · intro x b hb
                        split at hb
                        · injection hb with hb
                          rw [← hb]
                          exact graft_length hpgl hbql h4
                        · exact HE2.out.1.m x b hb
                      · exact OwnN.keep HW8.out.1 kk9 (fun x hx => .inl (by obtain rfl := List.mem_singleton.1 hx; exact HW8.out.2))
                · have HPS2 := Lib.hid (show ps2 = [] by rw [HS2.out, List.drop_eq_nil_of_le (by omega)])
                  have HT := Lib.hid (show secRun R.waits ((four (k : Int)).take (kk + 1)) M ps = (M2, ps2) by rw [HNX.out, HPS2.out]; rfl)
                  go_wp2_with fail
                  exact ⟨⟨kk + 1, u2 + 1, M2, ps2, by omega, by go_num, by go_num, Lib.hid (by have := HU.out; omega), Lib.hid (fun h => absurd h HL0.out), HT, Lib.hid (by rw [HPS2.out, List.drop_eq_nil_of_le (by omega)]), HE2⟩, by simp [intOf]; omega⟩
            · obtain rfl : kk = 4 := by omega
              have HFin := Lib.hid (show pgsRun R.waits (k + 1) (ofList R.lasts) picks = (M2, ps2) by
                rw [pgsRun_succ, HG.out]
                unfold pgRun
                rw [if_neg (by rw [← HL8.out]; exact fun h => absurd (HE0.out h) (by omega))]
                exact HE1.out)
              go_wp2_with fail
              exact ⟨⟨k + 1, u2, M2, ps2, by omega, rfl, by go_num, by have := HU.out; omega, HFin, HS2, Lib.hid HE2.out.1⟩, by simp [intOf]; omega⟩
    · obtain rfl : k = R.lasts.length := by omega
      have q4 := H0.out.2.2.1.keeps HR.out.k
      have qx := HR.out.box
      have z0 := q4.frozen 0
      have z1 := q4.frozen 1
      have z2 := q4.frozen 2
      have z3 := q4.frozen 3
      have z4 := q4.frozen 4
      have z5 := q4.frozen 5
      have HF := Lib.hid (And.intro q4 HR.out)
      have x0 := qx.cell 0
      have x1 := qx.cell 1
      have x2 := qx.cell 2
      have x3 := qx.cell 3
      have x4 := qx.cell 4
      have x5 := qx.cell 5
      have v4 := q4.cell 0
      have v5 := q4.cell 1
      have v6 := q4.cell 2
      have v7 := q4.cell 3
      have v8 := q4.cell 4
      have v9 := q4.cell 5
      simp only [List.getElem?_toArray, List.getElem?_cons_zero, List.getElem?_cons_succ] at x0 x1 x2 x3 x4 x5 v4 v5 v6 v7 v8 v9
      clear q2 q4 qx
      go_wp2_with fail
      obtain ⟨p1, p2⟩ := rk_put HF.out.1 (.slice A5 n5 c5) (.slice none 0 0) (.int .i64 0) (.int .i64 0) (.bool false) (.int .i64 0)
      refine crash_door _ _ _ _ _ _ _ _ _ rfl p1 _ ⟨_, rfl, ?_, (H0.out.1.then_ HF.out.2.k).trans p2 (fun y hy hlt => by simp at hy; omega)⟩
      have ecr : R.crash picks = { Rk.fresh 0 with lasts := listOf R.lasts.length M } := by unfold Rk.crash; rw [HG.out]
      rw [ecr]
      have ho := HF.out.2.own
      have hnn : n5 = (listOf R.lasts.length M).length := by rw [HN5.out, listOf_length]
      rw [hnn] at ho
      exact ⟨A5, c5, none, 0, by rw [hnn]; rfl, (OwnN.at_ ho encTxt).box p2 HF.out.1 (by decide), ListAt.nil _ _ _ _ _⟩
end Go.Proofs.Ytehlabdbbbbopaa
