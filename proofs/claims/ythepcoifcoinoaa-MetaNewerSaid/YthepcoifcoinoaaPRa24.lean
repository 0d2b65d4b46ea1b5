/- Walks over the reference's Look (layer 4), where the sum is right. Walks over the reference's Look (layer 4), where the sum is right and the parts may be a page's. -/
import Derived.Test.YthepcoifcoinoaaPRa22
import Derived.Test.YthepcoifcoinoaaPRa19
import Derived.Test.YthepcoifcoinoaaPRa23
import Derived.Deep.DeepCutAuto
import Derived.Deep.CutRange
import Derived.Deep.RegionHeld3
import Derived.Outline

namespace Go.Proofs.Ythepcoifcoinoaa
open Go.RowKit

def RefLookSays (w : World) (l : List UInt8) (e : Ending) (w' : World) : Prop :=
  (lookOk l = true ∧ Keeps w w' [] ∧ ∃ A c, e = .returned (.tuple #[.int .i64 (pgNum l : Nat), .agg #[.int .i64 (pgKind l : Nat), .int .i64 (pgTxid l), .int .i64 (pgNext l : Nat), .slice A (pgBody l).length c], .int .i64 0]) ∧ Bytes w w.heap.size (.slice A (pgBody l).length c) (pgBody l)) ∨
  (lookOk l = false ∧ e = .returned (noLook 141) ∧ Keeps w w' [])

theorem beN_one (l : List UInt8) (m : Nat) (h : m < l.length) : beN ((l.drop m).take 1) = l[m].toNat := by
  rw [List.drop_eq_getElem_cons h, List.take_succ_cons]
  simp [beN]

theorem refRaw_pg (W : World) (l : List UInt8) (hl : l.length = 256) (A : Option Addr) (c : Nat) (hB : Bytes W W.heap.size (.slice A (pgBody l).length c) (pgBody l)) (hn : pgLen l ≤ 232)
    (hok : pageOk (pgKind l) (pgTxid l) (pgNext l) (pgLen l) = true) (hw : pgNum l ≤ 4095) :
    Calls Try.prog 21 #[.int .i64 (pgNum l : Nat), .agg #[.int .i64 (pgKind l : Nat), .int .i64 (pgTxid l), .int .i64 (pgNext l : Nat), .slice A (pgLen l) c]] W fun e w' =>
      ∃ A' c', e = .returned (.slice A' 256 c') ∧ Keeps W w' [] ∧ Hid (∀ W', Keeps w' W' [] → (convert 22 9 (.slice A' 256 c')).run Try.prog W' = .ok (.string ⟨(pgRaw l).toArray⟩) W') := by
  have hb := pgBody_length l hl hn
  obtain ⟨hk, ht, hnx, _⟩ := pageOk_true hok
  have hT : pgTxid l = (((pgTxid l).toNat : Nat) : Int) := (Int.toNat_of_nonneg ht.1).symm
  have h := refRaw_any W (pgNum l) (pgKind l) (pgTxid l).toNat (pgNext l) A c (pgBody l) hB (by rw [← hT, hb]; exact hok) hw
  rw [← hT, hb] at h
  refine h.mono ?_
  rintro e w' ⟨v, rfl, ho, hk⟩
  obtain ⟨A', c', rfl, h1, h2, h3, hL⟩ := ho.parts
  have hlen := pgRaw_length l hl hn
  unfold pgRaw at hlen
  refine ⟨A', c', by rw [hlen], hk, fun W' hk' => ?_⟩
  have := conv_str W' W'.heap.size A' c' _ ((hL.below (hk'.below (Nat.le_refl _) (by simp))).mono hk'.size)
  rw [hlen] at this
  exact this

set_option maxRecDepth 100000 in
set_option maxHeartbeats 2000000 in
theorem refLook_near (w : World) (A : Option Addr) (c : Nat) (l : List UInt8) (hB : Bytes w w.heap.size (.slice A l.length c) l) (hl : l.length = 256) (hs : beN (l.take 4) = crcSum (l.drop 4))
    (hfar : ¬ (pgLen l ≤ 232 ∧ pageOk (pgKind l) (pgTxid l) (pgNext l) (pgLen l) = true ∧ pgNum l ≤ 4095)) :
    Calls Try.prog 15 #[.slice A 256 c] w (RefLookSays w l) := by
  have HFAR := Lib.hid hfar
  clear hfar
  have hc : 256 ≤ c ∧ c ≤ 9223372036854775807 := by
    obtain ⟨A', c', h1, h2, h3, h4, _⟩ := hB
    injection h1 with e1 e2 e3
    subst e3
    simp only [maxLen] at h4
    omega
  obtain ⟨hc1, hc2⟩ := hc
  have hL := hB.lies
  obtain ⟨bl, ol, rfl, hbl, hcell⟩ := hL (by simp; omega)
  obtain ⟨bk, bn, bnum, bnx, bpad⟩ := pg_bounds l hl
  have hcne : ¬ c = 4 := by omega
  have hcne24 : ¬ c = 24 := by omega
  have hb4 : beN (l.take 4) < 4294967296 := by
    have := beN_lt (l.take 4)
    rw [show (l.take 4).length = 4 by rw [List.length_take]; omega] at this
    exact this
  have hcs := crcSum_lt (l.drop 4)
  have HSUM := Lib.hid (show (((beN (l.take 4) : Nat) : Int) == ((crcSum (l.drop 4) : Nat) : Int)) = true by simp; omega)
  have HS := Lib.hid hs
  have HL := Lib.hid hl
  have HN := Lib.hid (show (l.drop 4).length = 252 by rw [List.length_drop]; omega)
  have HC := Lib.hid (show ∀ W : World, Keeps w W [] → W.cell? ⟨bl, ol + 4, none⟩ = some (.int .u8 (pgKind l : Nat)) ∧ W.cell? ⟨bl, ol + 5, none⟩ = some (.int .u8 (pgLen l : Nat)) from fun W hk => by
    have h4 := hcell 4 (.int .u8 (pgKind l : Nat)) (by rw [List.getElem?_map, List.getElem?_eq_getElem (by omega)]; simp [byteV, pgKind, beN_one l 4 (by omega)])
    have h5 := hcell 5 (.int .u8 (pgLen l : Nat)) (by rw [List.getElem?_map, List.getElem?_eq_getElem (by omega)]; simp [byteV, pgLen, beN_one l 5 (by omega)])
    exact ⟨(hk.cell (p := ⟨bl, ol + 4, none⟩) hbl (by simp)).trans h4, (hk.cell (p := ⟨bl, ol + 5, none⟩) hbl (by simp)).trans h5⟩)
  have HL0 := Lib.hid (show ∀ W : World, Keeps w W [] → Lies W W.heap.size (some ⟨bl, ol, none⟩) (l.map byteV) from fun W hk => (hL.below (hk.below (Nat.le_refl _) (by simp))).mono hk.size)
  have HL4 := Lib.hid (show ∀ W : World, Keeps w W [] → Lies W W.heap.size (some ⟨bl, ol + 4, none⟩) ((l.drop 4).map byteV) from fun W hk => by
    have := (HL0.out W hk).cut (k := 4) (cap := c) (by simp; omega)
    rw [if_neg (by omega), ← List.map_drop] at this
    exact this)
  have HC2 := Lib.hid (show ∀ W : World, Keeps w W [] → (convert 22 9 (.slice (some ⟨bl, ol, none⟩) 256 c)).run Try.prog W = .ok (.string ⟨l.toArray⟩) W from fun W hk => by
    have := conv_str W W.heap.size (some ⟨bl, ol, none⟩) c l (HL0.out W hk)
    rw [hl] at this
    exact this)
  have HB := Lib.hid hB
  obtain ⟨S, hS1, hS2, hS3⟩ : ∃ S : Int, S = ((crcSum (l.drop 4) : Nat) : Int) ∧ 0 ≤ S ∧ S < 4294967296 := ⟨_, rfl, by omega, by omega⟩
  obtain ⟨S', hS'⟩ : ∃ S' : Int, S' = S := ⟨_, rfl⟩
  have HQ1 := Lib.hid (show ∀ W : World, Keeps w W [] → Calls Try.prog 46 #[.slice (some ⟨bl, ol, none⟩) 256 c, .int .i64 0, .int .i64 4] W fun e w' => e = .returned (.int .i64 S') ∧ W = w' from fun W hk => (refRead_256 W (some ⟨bl, ol, none⟩) c 0 4 0 4 l HL.out rfl rfl (HL0.out W hk) (by omega) (by simp [maxLen]; omega) (by omega) (by omega) (by omega)).mono (by
      rintro e w1 ⟨rfl, rfl⟩
      refine ⟨?_, rfl⟩
      rw [List.drop_zero, cast32 _ hb4, hS', hS1, hs]))
  have HQ2 := Lib.hid (show ∀ W : World, Keeps w W [] → Calls Try.prog 47 #[.slice (some ⟨bl, ol + 4, none⟩) 252 (c - 4)] W fun e w' => e = .returned (.int .u32 S) ∧ W = w' from fun W hk => (refSum_252 W (some ⟨bl, ol + 4, none⟩) (c - 4) (l.drop 4) HN.out (by omega) (HL4.out W hk)).mono (by
      rintro e w1 ⟨rfl, rfl⟩
      refine ⟨?_, rfl⟩
      rw [hS1]))
  have HNE := Lib.hid (show (S' != S) = false by simp [hS'])
  have HQT := Lib.hid (show ∀ W : World, Keeps w W [] → Calls Try.prog 46 #[.slice (some ⟨bl, ol, none⟩) 256 c, .int .i64 6, .int .i64 8] W fun e w' => e = .returned (.int .i64 (pgTxid l)) ∧ W = w' from fun W hk => (refRead_256 W (some ⟨bl, ol, none⟩) c 6 8 6 8 l HL.out rfl rfl (HL0.out W hk) (by omega) (by simp [maxLen]; omega) (by omega) (by omega) (by omega)).mono (by
      rintro e w1 ⟨rfl, rfl⟩
      exact ⟨rfl, rfl⟩))
  have HQN := Lib.hid (show ∀ W : World, Keeps w W [] → Calls Try.prog 46 #[.slice (some ⟨bl, ol, none⟩) 256 c, .int .i64 18, .int .i64 4] W fun e w' => e = .returned (.int .i64 (pgNext l : Nat)) ∧ W = w' from fun W hk => (refRead_256 W (some ⟨bl, ol, none⟩) c 18 4 18 4 l HL.out rfl rfl (HL0.out W hk) (by omega) (by simp [maxLen]; omega) (by omega) (by omega) (by omega)).mono (by
      rintro e w1 ⟨rfl, rfl⟩
      exact ⟨by rw [cast32 _ (by exact bnx)]; rfl, rfl⟩))
  have HQM := Lib.hid (show ∀ W : World, Keeps w W [] → Calls Try.prog 46 #[.slice (some ⟨bl, ol, none⟩) 256 c, .int .i64 14, .int .i64 4] W fun e w' => e = .returned (.int .i64 (pgNum l : Nat)) ∧ W = w' from fun W hk => (refRead_256 W (some ⟨bl, ol, none⟩) c 14 4 14 4 l HL.out rfl rfl (HL0.out W hk) (by omega) (by simp [maxLen]; omega) (by omega) (by omega) (by omega)).mono (by
      rintro e w1 ⟨rfl, rfl⟩
      exact ⟨by rw [cast32 _ (by exact bnum)]; rfl, rfl⟩))
  clear hB hl hs hcell hL hS1 hb4 hcs HSUM hS'
  go_enter Try.func15, Try.ntmps15
  go_wp2_with fail
  obtain ⟨W0, hW0⟩ : ∃ W0, w.alloc (.cells #[.int .i64 0, .int .i64 0, .int .i64 0, .slice none 0 0] 26) = W0 := ⟨_, rfl⟩
  have hk0 : Keeps w W0 [] := by rw [← hW0]; exact Keeps.alloc _ _
  have hr0 : Row W0 w.heap.size 26 #[.int .i64 0, .int .i64 0, .int .i64 0, .slice none 0 0] := by rw [← hW0]; exact Row.new _ _ _
  rw [hW0]
  clear hW0
  have HK0 := Lib.hid hk0
  have HR0 := Lib.hid hr0
  clear hk0 hr0
  go_quiet ((first
    | (go_at_call 46; exact Calls.quiet_same' (HQ1.out _ (HK0.out.then_drewN _)))
    | (go_at_call 47; exact Calls.quiet_same' (HQ2.out _ (HK0.out.then_drewN _)))))
  have hne := HNE.out
  have hk := HK0.out.then_drewN nq
  have hr3 := HR0.out.drewN nq
  obtain ⟨W, hW⟩ : ∃ W, W0.drewN nq = W := ⟨_, rfl⟩
  rw [hW] at hk hr3 ⊢
  clear hW
  obtain ⟨x4, x5⟩ := HC.out W hk
  have hsz := hr3.lt
  have HR := Lib.hid (And.intro hk hr3)
  clear hk hr3
  by_cases hn : pgLen l ≤ 232
  · have hnn := hn
    have hnb : decide ((232 : Int) < ((pgLen l : Nat) : Int)) = false := by simp; omega
    go_wp2_with fail
    go_cut [6] from 6 to 39 (fun v wx => v = .pointer (some ⟨W.heap.size, 0, none⟩) ∧ Keeps W wx [] ∧ Row wx W.heap.size 26 #[.int .i64 (pgKind l : Nat), .int .i64 (pgTxid l), .int .i64 (pgNext l : Nat), .slice (some ⟨bl, ol + 24, none⟩) (pgLen l) (c - 24)])
    case first =>
      have kc := fun (wx : World) (h : Keeps W wx []) => (HC.out wx (HR.out.1.then_ h)).1
      have ka := fun (wx : World) (o : Obj) (h : Keeps W wx []) => h.then_alloc o
      have kd := fun (wx : World) (h : Keeps W wx []) => h.then_drew
      have k0 := Keeps.refl W []
      have s1 : IntKind.i64.wrap (24 + ((pgLen l : Nat) : Int)) = 24 + ((pgLen l : Nat) : Int) := IntWalk.i64_in _ (by omega)
      have sk : IntKind.i64.wrap ((pgKind l : Nat) : Int) = ((pgKind l : Nat) : Int) := IntWalk.i64_in _ (by omega)
      have s2 : 0 ≤ 24 + ((pgLen l : Nat) : Int) := by omega
      have s3 : (24 + ((pgLen l : Nat) : Int)).toNat = 24 + pgLen l := by omega
      have s4 : 24 + ((pgLen l : Nat) : Int) ≤ (c : Int) := by omega
      have s5 : (24 : Int) ≤ 24 + ((pgLen l : Nat) : Int) := by omega
      go_region_held3 (fun w' => w'.cell? ⟨bl, ol + 4, none⟩ = some (.int .u8 (pgKind l : Nat))) (first | go_keep | assumption)
        (first
        | (go_at_call_of 46 (Value.int IntKind.i64 8); refine (HQT.out _ (HR.out.1.then_ (by first | exact Keeps.drew _ | exact (Keeps.alloc W _).then_drew ))).mono ?_; rintro e w1 ⟨rfl, rfl⟩)
        | (go_at_call_of 46 (Value.int IntKind.i64 4); refine (HQN.out _ (HR.out.1.then_ (by first | exact Keeps.drew _ | exact (Keeps.alloc W _).then_drew ))).mono ?_; rintro e w1 ⟨rfl, rfl⟩))
      all_goals (go_wp2_with fail; go_meet; exact ⟨rfl, (Keeps.alloc W _).then_drew, Row.new W _ _⟩)
    case rest =>
      obtain ⟨rfl, hk1, hr1⟩ := hcut
      have HP := Lib.hid (And.intro (HR.out.1.then_ hk1) (And.intro hr1 (HR.out.2.keep hk1 (by simp))))
      clear hk1 hr1
      go_wp2_with fail
      refine (HQM.out _ HP.out.1).mono ?_
      rintro e w1 ⟨rfl, rfl⟩
      have hc256 := HC2.out wc HP.out.1
      have c0 := HP.out.2.1.cell 0
      have c1 := HP.out.2.1.cell 1
      have c2 := HP.out.2.1.cell 2
      have c3 := HP.out.2.1.cell 3
      simp only [List.getElem?_toArray, List.getElem?_cons_zero, List.getElem?_cons_succ] at c0 c1 c2 c3
      go_upto_region 10 with fail
      by_cases hok : pageOk (pgKind l) (pgTxid l) (pgNext l) (pgLen l) = true
      · have HRT := Lib.hid (show ∀ W : World, Calls Try.prog 20 #[.agg #[.int .i64 (pgKind l : Nat), .int .i64 (pgTxid l), .int .i64 (pgNext l : Nat), .slice (some ⟨bl, ol + 24, none⟩) (pgLen l) (c - 24)]] W fun e w' => e = .returned (.bool true) ∧ Keeps W w' [] from fun W => by
          have := right_any (pgKind l) (pgTxid l) (pgNext l) (some ⟨bl, ol + 24, none⟩) (pgLen l) (c - 24) (Nat.le_trans hn (by omega)) W
          rw [hok] at this
          exact this)
        have HOK := Lib.hid hok
        clear hok
        by_cases hw : pgNum l ≤ 4095
        · exact absurd ⟨hn, HOK.out, hw⟩ HFAR.out
        · have hw1 : decide ((4095 : Int) < ((pgNum l : Nat) : Int)) = true := by simp; omega
          have hw2 : decide (((pgNum l : Nat) : Int) < 0) = false := by simp
          have hno : lookOk l = false := by
            have : withinB (pgNum l : Nat) 0 4095 = false := by simp [withinB]; omega
            simp [lookOk, this]
          have HNO := Lib.hid hno
          clear hno hw
          refine wp_region_any (by kernel_rfl) ?_
          try (change wpAny _ _ _ _ _ _ _ (World.drew _))
          refine wpAny_ready (rs := [0]) (by kernel_rfl) (by simp) ?_
          refine AllReady.cons rfl (fun K hK => ?_) AllReady.nil
          go_simp
          refine hK _ _ ?_
          clear hK K
          refine wpAny_ready (rs := [1]) (by kernel_rfl) (by simp) ?_
          refine AllReady.cons rfl (fun K hK => ?_) AllReady.nil
          go_simp
          refine (HRT.out _).mono ?_
          rintro e w2 ⟨rfl, hk2⟩
          refine hK _ _ ?_
          clear hK K
          have HK2 := Lib.hid hk2
          clear hk2
          refine wpAny_ready (rs := [2]) (by kernel_rfl) (by simp) ?_
          refine AllReady.cons rfl (fun K hK => ?_) AllReady.nil
          go_simp
          refine hK _ _ ?_
          clear hK K
          refine wpAny_ready (rs := [3]) (by kernel_rfl) (by simp) ?_
          refine AllReady.cons rfl (fun K hK => ?_) AllReady.nil
          go_simp
          refine hK _ _ ?_
          clear hK K
          refine wpAny_ready (rs := [4]) (by kernel_rfl) (by simp) ?_
          refine AllReady.cons rfl (fun K hK => ?_) AllReady.nil
          go_simp
          refine hK _ _ ?_
          clear hK K
          refine wpAny_ready (rs := [5]) (by kernel_rfl) (by simp) ?_
          refine AllReady.cons rfl (fun K hK => ?_) AllReady.nil
          go_simp
          refine hK _ _ ?_
          clear hK K
          refine wpAny_ready (rs := [6]) (by kernel_rfl) (by simp) ?_
          refine AllReady.cons rfl (fun K hK => ?_) AllReady.nil
          go_simp
          refine hK _ _ ?_
          clear hK K
          refine wpAny_ready (rs := [7]) (by kernel_rfl) (by simp) ?_
          refine AllReady.cons rfl (fun K hK => ?_) AllReady.nil
          go_simp
          refine hK _ _ ?_
          clear hK K
          refine wpAny_ready (rs := [8]) (by kernel_rfl) (by simp) ?_
          refine AllReady.cons rfl (fun K hK => ?_) AllReady.nil
          go_simp
          refine hK _ _ ?_
          clear hK K
          refine wpAny_ready (rs := [9]) (by kernel_rfl) (by simp) ?_
          refine AllReady.cons rfl (fun K hK => ?_) AllReady.nil
          go_simp
          refine hK _ _ ?_
          clear hK K
          refine wpAny_ready (rs := [10]) (by kernel_rfl) (by simp) ?_
          refine AllReady.cons rfl (fun K hK => ?_) AllReady.nil
          go_simp
          refine hK _ _ ?_
          clear hK K
          refine wpAny_ready (rs := [11]) (by kernel_rfl) (by simp) ?_
          refine AllReady.cons rfl (fun K hK => ?_) AllReady.nil
          go_simp
          refine hK _ _ ?_
          clear hK K
          refine wpAny_take (i := 12) (v := undef) rfl (by kernel_rfl) (by kernel_rfl) (by kernel_rfl) (fun _ _ _ h => h) (Or.inr ⟨by rfl, rfl⟩) ?_
          refine wpAny_take (i := 13) (v := undef) rfl (by kernel_rfl) (by kernel_rfl) (by kernel_rfl) (fun _ _ _ h => h) (Or.inr ⟨by rfl, rfl⟩) ?_
          refine wpAny_take (i := 14) (v := undef) rfl (by kernel_rfl) (by kernel_rfl) (by kernel_rfl) (fun _ _ _ h => h) (Or.inr ⟨by rfl, rfl⟩) ?_
          refine wpAny_take (i := 15) (v := undef) rfl (by kernel_rfl) (by kernel_rfl) (by kernel_rfl) (fun _ _ _ h => h) (Or.inr ⟨by rfl, rfl⟩) ?_
          refine wpAny_take (i := 16) (v := undef) rfl (by kernel_rfl) (by kernel_rfl) (by kernel_rfl) (fun _ _ _ h => h) (Or.inr ⟨by rfl, rfl⟩) ?_
          refine wpAny_take (i := 17) (v := undef) rfl (by kernel_rfl) (by kernel_rfl) (by kernel_rfl) (fun _ _ _ h => h) (Or.inr ⟨by rfl, rfl⟩) ?_
          refine wpAny_take (i := 18) (v := undef) rfl (by kernel_rfl) (by kernel_rfl) (by kernel_rfl) (fun _ _ _ h => h) (Or.inr ⟨by rfl, rfl⟩) ?_
          refine wpAny_ready (rs := [19]) (by kernel_rfl) (by simp) ?_
          refine AllReady.cons rfl (fun K hK => ?_) AllReady.nil
          go_simp
          refine hK _ _ ?_
          clear hK K
          refine wpAny_done (by kernel_rfl) ?_ _
          have hkk := (Keeps.drew wc).then_ HK2.out
          have hr2 := HP.out.2.2.keep hkk (by simp)
          have HF := Lib.hid (And.intro (HP.out.1.then_ hkk) hr2)
          have d0 := hr2.cell 0
          have d1 := hr2.cell 1
          have d2 := hr2.cell 2
          have d3 := hr2.cell 3
          simp only [List.getElem?_toArray, List.getElem?_cons_zero, List.getElem?_cons_succ] at d0 d1 d2 d3
          have g0 := hr2.frozen 0
          have g1 := hr2.frozen 1
          have g2 := hr2.frozen 2
          have g3 := hr2.frozen 3
          clear hr2 hkk
          go_wp2_with fail
          obtain ⟨pp1, pp2⟩ := page_put HF.out.2 (.int .i64 0) (.int .i64 0) (.int .i64 0) (.slice none 0 0)
          exact refLook_door _ _ w.heap.size _ _ _ _ _ _ rfl rfl rfl pp1 _ (Or.inr ⟨HNO.out, rfl, HF.out.1.trans pp2 (fun x hx hl => by simp at hx; omega)⟩)
      · have hok' : pageOk (pgKind l) (pgTxid l) (pgNext l) (pgLen l) = false := by simpa using hok
        have HRT := Lib.hid (show ∀ W : World, Calls Try.prog 20 #[.agg #[.int .i64 (pgKind l : Nat), .int .i64 (pgTxid l), .int .i64 (pgNext l : Nat), .slice (some ⟨bl, ol + 24, none⟩) (pgLen l) (c - 24)]] W fun e w' => e = .returned (.bool false) ∧ Keeps W w' [] from fun W => by
          have := right_any (pgKind l) (pgTxid l) (pgNext l) (some ⟨bl, ol + 24, none⟩) (pgLen l) (c - 24) (Nat.le_trans hn (by omega)) W
          rw [hok'] at this
          exact this)
        have hno : lookOk l = false := by simp [lookOk, hok']
        have HNO := Lib.hid hno
        clear hok hok' hno
        refine wp_region_any (by kernel_rfl) ?_
        try (change wpAny _ _ _ _ _ _ _ (World.drew _))
        refine wpAny_ready (rs := [0]) (by kernel_rfl) (by simp) ?_
        refine AllReady.cons rfl (fun K hK => ?_) AllReady.nil
        go_simp
        refine hK _ _ ?_
        clear hK K
        refine wpAny_ready (rs := [1]) (by kernel_rfl) (by simp) ?_
        refine AllReady.cons rfl (fun K hK => ?_) AllReady.nil
        go_simp
        refine (HRT.out _).mono ?_
        rintro e w2 ⟨rfl, hk2⟩
        refine hK _ _ ?_
        clear hK K
        have HK2 := Lib.hid hk2
        clear hk2
        refine wpAny_ready (rs := [2]) (by kernel_rfl) (by simp) ?_
        refine AllReady.cons rfl (fun K hK => ?_) AllReady.nil
        go_simp
        refine hK _ _ ?_
        clear hK K
        refine wpAny_ready (rs := [3]) (by kernel_rfl) (by simp) ?_
        refine AllReady.cons rfl (fun K hK => ?_) AllReady.nil
        go_simp
        refine hK _ _ ?_
        clear hK K
        refine wpAny_ready (rs := [4]) (by kernel_rfl) (by simp) ?_
        refine AllReady.cons rfl (fun K hK => ?_) AllReady.nil
        go_simp
        refine hK _ _ ?_
        clear hK K
        refine wpAny_ready (rs := [5]) (by kernel_rfl) (by simp) ?_
        refine AllReady.cons rfl (fun K hK => ?_) AllReady.nil
        go_simp
        refine hK _ _ ?_
        clear hK K
        refine wpAny_ready (rs := [6]) (by kernel_rfl) (by simp) ?_
        refine AllReady.cons rfl (fun K hK => ?_) AllReady.nil
        go_simp
        refine hK _ _ ?_
        clear hK K
        refine wpAny_ready (rs := [7]) (by kernel_rfl) (by simp) ?_
        refine AllReady.cons rfl (fun K hK => ?_) AllReady.nil
        go_simp
        refine hK _ _ ?_
        clear hK K
        refine wpAny_ready (rs := [8]) (by kernel_rfl) (by simp) ?_
        refine AllReady.cons rfl (fun K hK => ?_) AllReady.nil
        go_simp
        refine hK _ _ ?_
        clear hK K
        refine wpAny_ready (rs := [9]) (by kernel_rfl) (by simp) ?_
        refine AllReady.cons rfl (fun K hK => ?_) AllReady.nil
        go_simp
        refine hK _ _ ?_
        clear hK K
        refine wpAny_ready (rs := [10]) (by kernel_rfl) (by simp) ?_
        refine AllReady.cons rfl (fun K hK => ?_) AllReady.nil
        go_simp
        refine hK _ _ ?_
        clear hK K
        refine wpAny_ready (rs := [11]) (by kernel_rfl) (by simp) ?_
        refine AllReady.cons rfl (fun K hK => ?_) AllReady.nil
        go_simp
        refine hK _ _ ?_
        clear hK K
        refine wpAny_take (i := 12) (v := undef) rfl (by kernel_rfl) (by kernel_rfl) (by kernel_rfl) (fun _ _ _ h => h) (Or.inr ⟨by rfl, rfl⟩) ?_
        refine wpAny_take (i := 13) (v := undef) rfl (by kernel_rfl) (by kernel_rfl) (by kernel_rfl) (fun _ _ _ h => h) (Or.inr ⟨by rfl, rfl⟩) ?_
        refine wpAny_take (i := 14) (v := undef) rfl (by kernel_rfl) (by kernel_rfl) (by kernel_rfl) (fun _ _ _ h => h) (Or.inr ⟨by rfl, rfl⟩) ?_
        refine wpAny_take (i := 15) (v := undef) rfl (by kernel_rfl) (by kernel_rfl) (by kernel_rfl) (fun _ _ _ h => h) (Or.inr ⟨by rfl, rfl⟩) ?_
        refine wpAny_take (i := 16) (v := undef) rfl (by kernel_rfl) (by kernel_rfl) (by kernel_rfl) (fun _ _ _ h => h) (Or.inr ⟨by rfl, rfl⟩) ?_
        refine wpAny_take (i := 17) (v := undef) rfl (by kernel_rfl) (by kernel_rfl) (by kernel_rfl) (fun _ _ _ h => h) (Or.inr ⟨by rfl, rfl⟩) ?_
        refine wpAny_take (i := 18) (v := undef) rfl (by kernel_rfl) (by kernel_rfl) (by kernel_rfl) (fun _ _ _ h => h) (Or.inr ⟨by rfl, rfl⟩) ?_
        refine wpAny_ready (rs := [19]) (by kernel_rfl) (by simp) ?_
        refine AllReady.cons rfl (fun K hK => ?_) AllReady.nil
        go_simp
        refine hK _ _ ?_
        clear hK K
        refine wpAny_done (by kernel_rfl) ?_ _
        have hkk := (Keeps.drew wc).then_ HK2.out
        have hr2 := HP.out.2.2.keep hkk (by simp)
        have HF := Lib.hid (And.intro (HP.out.1.then_ hkk) hr2)
        have d0 := hr2.cell 0
        have d1 := hr2.cell 1
        have d2 := hr2.cell 2
        have d3 := hr2.cell 3
        simp only [List.getElem?_toArray, List.getElem?_cons_zero, List.getElem?_cons_succ] at d0 d1 d2 d3
        have g0 := hr2.frozen 0
        have g1 := hr2.frozen 1
        have g2 := hr2.frozen 2
        have g3 := hr2.frozen 3
        clear hr2 hkk
        go_wp2_with fail
        obtain ⟨pp1, pp2⟩ := page_put HF.out.2 (.int .i64 0) (.int .i64 0) (.int .i64 0) (.slice none 0 0)
        exact refLook_door _ _ w.heap.size _ _ _ _ _ _ rfl rfl rfl pp1 _ (Or.inr ⟨HNO.out, rfl, HF.out.1.trans pp2 (fun x hx hl => by simp at hx; omega)⟩)
  · have hnb : decide ((232 : Int) < ((pgLen l : Nat) : Int)) = true := by simp; omega
    have HNO := Lib.hid (show lookOk l = false by simp [lookOk, hn])
    clear hn
    have c0 := HR.out.2.cell 0
    have c1 := HR.out.2.cell 1
    have c2 := HR.out.2.cell 2
    have c3 := HR.out.2.cell 3
    simp only [List.getElem?_toArray, List.getElem?_cons_zero, List.getElem?_cons_succ] at c0 c1 c2 c3
    have g0 := HR.out.2.frozen 0
    have g1 := HR.out.2.frozen 1
    have g2 := HR.out.2.frozen 2
    have g3 := HR.out.2.frozen 3
    go_wp2_with fail
    obtain ⟨pp1, pp2⟩ := page_put HR.out.2 (.int .i64 0) (.int .i64 0) (.int .i64 0) (.slice none 0 0)
    exact refLook_door _ _ w.heap.size _ _ _ _ _ _ rfl rfl rfl pp1 _ (Or.inr ⟨HNO.out, rfl, HR.out.1.trans pp2 (fun x hx hl => by simp at hx; omega)⟩)
end Go.Proofs.Ythepcoifcoinoaa

namespace Go.Proofs.Ythepcoifcoinoaa
open Go.RowKit

set_option maxRecDepth 100000 in
set_option maxHeartbeats 2000000 in
theorem refLook_far (w : World) (A : Option Addr) (c : Nat) (l : List UInt8) (hB : Bytes w w.heap.size (.slice A l.length c) l) (hl : l.length = 256) (hs : beN (l.take 4) = crcSum (l.drop 4))
    (hn : pgLen l ≤ 232) (hok : pageOk (pgKind l) (pgTxid l) (pgNext l) (pgLen l) = true) (hw : pgNum l ≤ 4095) :
    Calls Try.prog 15 #[.slice A 256 c] w (RefLookSays w l) := by
  have HOK := Lib.hid hok
  have HIFF := Lib.hid (pgRaw_iff l hl hs hn hok)
  clear hok
  have hc : 256 ≤ c ∧ c ≤ 9223372036854775807 := by
    obtain ⟨A', c', h1, h2, h3, h4, _⟩ := hB
    injection h1 with e1 e2 e3
    subst e3
    simp only [maxLen] at h4
    omega
  obtain ⟨hc1, hc2⟩ := hc
  have hL := hB.lies
  obtain ⟨bl, ol, rfl, hbl, hcell⟩ := hL (by simp; omega)
  obtain ⟨bk, bn, bnum, bnx, bpad⟩ := pg_bounds l hl
  have hcne : ¬ c = 4 := by omega
  have hcne24 : ¬ c = 24 := by omega
  have hb4 : beN (l.take 4) < 4294967296 := by
    have := beN_lt (l.take 4)
    rw [show (l.take 4).length = 4 by rw [List.length_take]; omega] at this
    exact this
  have hcs := crcSum_lt (l.drop 4)
  have HSUM := Lib.hid (show (((beN (l.take 4) : Nat) : Int) == ((crcSum (l.drop 4) : Nat) : Int)) = true by simp; omega)
  have HS := Lib.hid hs
  have HL := Lib.hid hl
  have HN := Lib.hid (show (l.drop 4).length = 252 by rw [List.length_drop]; omega)
  have HC := Lib.hid (show ∀ W : World, Keeps w W [] → W.cell? ⟨bl, ol + 4, none⟩ = some (.int .u8 (pgKind l : Nat)) ∧ W.cell? ⟨bl, ol + 5, none⟩ = some (.int .u8 (pgLen l : Nat)) from fun W hk => by
    have h4 := hcell 4 (.int .u8 (pgKind l : Nat)) (by rw [List.getElem?_map, List.getElem?_eq_getElem (by omega)]; simp [byteV, pgKind, beN_one l 4 (by omega)])
    have h5 := hcell 5 (.int .u8 (pgLen l : Nat)) (by rw [List.getElem?_map, List.getElem?_eq_getElem (by omega)]; simp [byteV, pgLen, beN_one l 5 (by omega)])
    exact ⟨(hk.cell (p := ⟨bl, ol + 4, none⟩) hbl (by simp)).trans h4, (hk.cell (p := ⟨bl, ol + 5, none⟩) hbl (by simp)).trans h5⟩)
  have HL0 := Lib.hid (show ∀ W : World, Keeps w W [] → Lies W W.heap.size (some ⟨bl, ol, none⟩) (l.map byteV) from fun W hk => (hL.below (hk.below (Nat.le_refl _) (by simp))).mono hk.size)
  have HL4 := Lib.hid (show ∀ W : World, Keeps w W [] → Lies W W.heap.size (some ⟨bl, ol + 4, none⟩) ((l.drop 4).map byteV) from fun W hk => by
    have := (HL0.out W hk).cut (k := 4) (cap := c) (by simp; omega)
    rw [if_neg (by omega), ← List.map_drop] at this
    exact this)
  have HC2 := Lib.hid (show ∀ W : World, Keeps w W [] → (convert 22 9 (.slice (some ⟨bl, ol, none⟩) 256 c)).run Try.prog W = .ok (.string ⟨l.toArray⟩) W from fun W hk => by
    have := conv_str W W.heap.size (some ⟨bl, ol, none⟩) c l (HL0.out W hk)
    rw [hl] at this
    exact this)
  have HB := Lib.hid hB
  obtain ⟨S, hS1, hS2, hS3⟩ : ∃ S : Int, S = ((crcSum (l.drop 4) : Nat) : Int) ∧ 0 ≤ S ∧ S < 4294967296 := ⟨_, rfl, by omega, by omega⟩
  obtain ⟨S', hS'⟩ : ∃ S' : Int, S' = S := ⟨_, rfl⟩
  have HQ1 := Lib.hid (show ∀ W : World, Keeps w W [] → Calls Try.prog 46 #[.slice (some ⟨bl, ol, none⟩) 256 c, .int .i64 0, .int .i64 4] W fun e w' => e = .returned (.int .i64 S') ∧ W = w' from fun W hk => (refRead_256 W (some ⟨bl, ol, none⟩) c 0 4 0 4 l HL.out rfl rfl (HL0.out W hk) (by omega) (by simp [maxLen]; omega) (by omega) (by omega) (by omega)).mono (by
      rintro e w1 ⟨rfl, rfl⟩
      refine ⟨?_, rfl⟩
      rw [List.drop_zero, cast32 _ hb4, hS', hS1, hs]))
  have HQ2 := Lib.hid (show ∀ W : World, Keeps w W [] → Calls Try.prog 47 #[.slice (some ⟨bl, ol + 4, none⟩) 252 (c - 4)] W fun e w' => e = .returned (.int .u32 S) ∧ W = w' from fun W hk => (refSum_252 W (some ⟨bl, ol + 4, none⟩) (c - 4) (l.drop 4) HN.out (by omega) (HL4.out W hk)).mono (by
      rintro e w1 ⟨rfl, rfl⟩
      refine ⟨?_, rfl⟩
      rw [hS1]))
  have HNE := Lib.hid (show (S' != S) = false by simp [hS'])
  have HQT := Lib.hid (show ∀ W : World, Keeps w W [] → Calls Try.prog 46 #[.slice (some ⟨bl, ol, none⟩) 256 c, .int .i64 6, .int .i64 8] W fun e w' => e = .returned (.int .i64 (pgTxid l)) ∧ W = w' from fun W hk => (refRead_256 W (some ⟨bl, ol, none⟩) c 6 8 6 8 l HL.out rfl rfl (HL0.out W hk) (by omega) (by simp [maxLen]; omega) (by omega) (by omega) (by omega)).mono (by
      rintro e w1 ⟨rfl, rfl⟩
      exact ⟨rfl, rfl⟩))
  have HQN := Lib.hid (show ∀ W : World, Keeps w W [] → Calls Try.prog 46 #[.slice (some ⟨bl, ol, none⟩) 256 c, .int .i64 18, .int .i64 4] W fun e w' => e = .returned (.int .i64 (pgNext l : Nat)) ∧ W = w' from fun W hk => (refRead_256 W (some ⟨bl, ol, none⟩) c 18 4 18 4 l HL.out rfl rfl (HL0.out W hk) (by omega) (by simp [maxLen]; omega) (by omega) (by omega) (by omega)).mono (by
      rintro e w1 ⟨rfl, rfl⟩
      exact ⟨by rw [cast32 _ (by exact bnx)]; rfl, rfl⟩))
  have HQM := Lib.hid (show ∀ W : World, Keeps w W [] → Calls Try.prog 46 #[.slice (some ⟨bl, ol, none⟩) 256 c, .int .i64 14, .int .i64 4] W fun e w' => e = .returned (.int .i64 (pgNum l : Nat)) ∧ W = w' from fun W hk => (refRead_256 W (some ⟨bl, ol, none⟩) c 14 4 14 4 l HL.out rfl rfl (HL0.out W hk) (by omega) (by simp [maxLen]; omega) (by omega) (by omega) (by omega)).mono (by
      rintro e w1 ⟨rfl, rfl⟩
      exact ⟨by rw [cast32 _ (by exact bnum)]; rfl, rfl⟩))
  clear hB hl hs hcell hL hS1 hb4 hcs HSUM hS'
  go_enter Try.func15, Try.ntmps15
  go_wp2_with fail
  obtain ⟨W0, hW0⟩ : ∃ W0, w.alloc (.cells #[.int .i64 0, .int .i64 0, .int .i64 0, .slice none 0 0] 26) = W0 := ⟨_, rfl⟩
  have hk0 : Keeps w W0 [] := by rw [← hW0]; exact Keeps.alloc _ _
  have hr0 : Row W0 w.heap.size 26 #[.int .i64 0, .int .i64 0, .int .i64 0, .slice none 0 0] := by rw [← hW0]; exact Row.new _ _ _
  rw [hW0]
  clear hW0
  have HK0 := Lib.hid hk0
  have HR0 := Lib.hid hr0
  clear hk0 hr0
  go_quiet ((first
    | (go_at_call 46; exact Calls.quiet_same' (HQ1.out _ (HK0.out.then_drewN _)))
    | (go_at_call 47; exact Calls.quiet_same' (HQ2.out _ (HK0.out.then_drewN _)))))
  have hne := HNE.out
  have hk := HK0.out.then_drewN nq
  have hr3 := HR0.out.drewN nq
  obtain ⟨W, hW⟩ : ∃ W, W0.drewN nq = W := ⟨_, rfl⟩
  rw [hW] at hk hr3 ⊢
  clear hW
  obtain ⟨x4, x5⟩ := HC.out W hk
  have hsz := hr3.lt
  have HR := Lib.hid (And.intro hk hr3)
  clear hk hr3
  have HRT := Lib.hid (show ∀ W : World, Calls Try.prog 20 #[.agg #[.int .i64 (pgKind l : Nat), .int .i64 (pgTxid l), .int .i64 (pgNext l : Nat), .slice (some ⟨bl, ol + 24, none⟩) (pgLen l) (c - 24)]] W fun e w' => e = .returned (.bool true) ∧ Keeps W w' [] from fun W => by
    have := right_any (pgKind l) (pgTxid l) (pgNext l) (some ⟨bl, ol + 24, none⟩) (pgLen l) (c - 24) (Nat.le_trans hn (by omega)) W
    rw [HOK.out] at this
    exact this)
  have HBODY := Lib.hid (show ∀ W : World, Keeps w W [] → Bytes W w.heap.size (.slice (some ⟨bl, ol + 24, none⟩) (pgBody l).length (c - 24)) (pgBody l) from fun W hk => by
    have h1 := ((HL0.out W hk).cut (k := 24) (cap := c) (by simp; rw [HL.out]; omega)).take (pgLen l)
    rw [if_neg (by omega), ← List.map_drop, ← List.map_take] at h1
    have hb := pgBody_length l HL.out hn
    refine ⟨some ⟨bl, ol + 24, none⟩, c - 24, rfl, by rw [hb]; omega, (fun h => by cases h), by simp only [maxLen]; omega, by rw [hb]; omega, fun h0 => ?_⟩
    obtain ⟨b1, o1, e1, hb1, hc1⟩ := h1 h0
    injection e1 with e1
    injection e1 with e1 e2
    exact ⟨bl, ol + 24, rfl, by omega, by subst e1; subst e2; exact hc1⟩)
  have HRAW := Lib.hid (show ∀ W : World, Keeps w W [] → Calls Try.prog 21 #[.int .i64 (pgNum l : Nat), .agg #[.int .i64 (pgKind l : Nat), .int .i64 (pgTxid l), .int .i64 (pgNext l : Nat), .slice (some ⟨bl, ol + 24, none⟩) (pgLen l) (c - 24)]] W fun e w' =>
      ∃ A' c', e = .returned (.slice A' 256 c') ∧ Keeps W w' [] ∧ Hid (∀ W', Keeps w' W' [] → (convert 22 9 (.slice A' 256 c')).run Try.prog W' = .ok (.string ⟨(pgRaw l).toArray⟩) W') from fun W hk =>
    refRaw_pg W l HL.out (some ⟨bl, ol + 24, none⟩) (c - 24) ((HBODY.out W hk).mono hk.size) hn HOK.out hw)
  have hnb : decide ((232 : Int) < ((pgLen l : Nat) : Int)) = false := by simp; omega
  go_wp2_with fail
  go_cut [6] from 6 to 39 (fun v wx => v = .pointer (some ⟨W.heap.size, 0, none⟩) ∧ Keeps W wx [] ∧ Row wx W.heap.size 26 #[.int .i64 (pgKind l : Nat), .int .i64 (pgTxid l), .int .i64 (pgNext l : Nat), .slice (some ⟨bl, ol + 24, none⟩) (pgLen l) (c - 24)])
  case first =>
    have kc := fun (wx : World) (h : Keeps W wx []) => (HC.out wx (HR.out.1.then_ h)).1
    have ka := fun (wx : World) (o : Obj) (h : Keeps W wx []) => h.then_alloc o
    have kd := fun (wx : World) (h : Keeps W wx []) => h.then_drew
    have k0 := Keeps.refl W []
    have s1 : IntKind.i64.wrap (24 + ((pgLen l : Nat) : Int)) = 24 + ((pgLen l : Nat) : Int) := IntWalk.i64_in _ (by omega)
    have sk : IntKind.i64.wrap ((pgKind l : Nat) : Int) = ((pgKind l : Nat) : Int) := IntWalk.i64_in _ (by omega)
    have s2 : 0 ≤ 24 + ((pgLen l : Nat) : Int) := by omega
    have s3 : (24 + ((pgLen l : Nat) : Int)).toNat = 24 + pgLen l := by omega
    have s4 : 24 + ((pgLen l : Nat) : Int) ≤ (c : Int) := by omega
    have s5 : (24 : Int) ≤ 24 + ((pgLen l : Nat) : Int) := by omega
    go_region_held3 (fun w' => w'.cell? ⟨bl, ol + 4, none⟩ = some (.int .u8 (pgKind l : Nat))) (first | go_keep | assumption)
      (first
      | (go_at_call_of 46 (Value.int IntKind.i64 8); refine (HQT.out _ (HR.out.1.then_ (by first | exact Keeps.drew _ | exact (Keeps.alloc W _).then_drew ))).mono ?_; rintro e w1 ⟨rfl, rfl⟩)
      | (go_at_call_of 46 (Value.int IntKind.i64 4); refine (HQN.out _ (HR.out.1.then_ (by first | exact Keeps.drew _ | exact (Keeps.alloc W _).then_drew ))).mono ?_; rintro e w1 ⟨rfl, rfl⟩))
    all_goals (go_wp2_with fail; go_meet; exact ⟨rfl, (Keeps.alloc W _).then_drew, Row.new W _ _⟩)
  case rest =>
    obtain ⟨rfl, hk1, hr1⟩ := hcut
    have HP := Lib.hid (And.intro (HR.out.1.then_ hk1) (And.intro hr1 (HR.out.2.keep hk1 (by simp))))
    clear hk1 hr1
    go_wp2_with fail
    refine (HQM.out _ HP.out.1).mono ?_
    rintro e w1 ⟨rfl, rfl⟩
    have hc256 := HC2.out wc HP.out.1
    have c0 := HP.out.2.1.cell 0
    have c1 := HP.out.2.1.cell 1
    have c2 := HP.out.2.1.cell 2
    have c3 := HP.out.2.1.cell 3
    simp only [List.getElem?_toArray, List.getElem?_cons_zero, List.getElem?_cons_succ] at c0 c1 c2 c3
    go_upto_region 10 with fail
    have hw1 : decide ((4095 : Int) < ((pgNum l : Nat) : Int)) = false := by simp; omega
    have hw2 : decide (((pgNum l : Nat) : Int) < 0) = false := by simp
    go_cut [61] from 42 to 61 (fun v wx => v = .bool (!(pgRaw l == l)) ∧ Keeps wc wx [])
    case first =>
      refine wp_region_any (by kernel_rfl) ?_
      try (change wpAny _ _ _ _ _ _ _ (World.drew _))
      refine wpAny_ready (rs := [0]) (by kernel_rfl) (by simp) ?_
      refine AllReady.cons rfl (fun K hK => ?_) AllReady.nil
      go_simp
      refine hK _ _ ?_
      clear hK K
      refine wpAny_ready (rs := [1]) (by kernel_rfl) (by simp) ?_
      refine AllReady.cons rfl (fun K hK => ?_) AllReady.nil
      go_simp
      refine (HRT.out _).mono ?_
      rintro e w2 ⟨rfl, hk2⟩
      refine hK _ _ ?_
      clear hK K
      have HK2 := Lib.hid ((Keeps.drew wc).then_ hk2)
      have r2 := HP.out.2.1.keep HK2.out (by simp)
      have d0 := r2.cell 0
      have d1 := r2.cell 1
      have d2 := r2.cell 2
      have d3 := r2.cell 3
      simp only [List.getElem?_toArray, List.getElem?_cons_zero, List.getElem?_cons_succ] at d0 d1 d2 d3
      have q2 := HC2.out w2 (HP.out.1.then_ HK2.out)
      clear hk2 r2
      refine wpAny_ready (rs := [2]) (by kernel_rfl) (by simp) ?_
      refine AllReady.cons rfl (fun K hK => ?_) AllReady.nil
      go_simp
      refine hK _ _ ?_
      clear hK K
      refine wpAny_ready (rs := [3]) (by kernel_rfl) (by simp) ?_
      refine AllReady.cons rfl (fun K hK => ?_) AllReady.nil
      go_simp
      refine hK _ _ ?_
      clear hK K
      refine wpAny_ready (rs := [4]) (by kernel_rfl) (by simp) ?_
      refine AllReady.cons rfl (fun K hK => ?_) AllReady.nil
      go_simp
      refine hK _ _ ?_
      clear hK K
      refine wpAny_ready (rs := [5]) (by kernel_rfl) (by simp) ?_
      refine AllReady.cons rfl (fun K hK => ?_) AllReady.nil
      go_simp
      refine hK _ _ ?_
      clear hK K
      refine wpAny_ready (rs := [6]) (by kernel_rfl) (by simp) ?_
      refine AllReady.cons rfl (fun K hK => ?_) AllReady.nil
      go_simp
      refine hK _ _ ?_
      clear hK K
      refine wpAny_ready (rs := [7]) (by kernel_rfl) (by simp) ?_
      refine AllReady.cons rfl (fun K hK => ?_) AllReady.nil
      go_simp
      refine hK _ _ ?_
      clear hK K
      refine wpAny_ready (rs := [8]) (by kernel_rfl) (by simp) ?_
      refine AllReady.cons rfl (fun K hK => ?_) AllReady.nil
      go_simp
      refine hK _ _ ?_
      clear hK K
      refine wpAny_ready (rs := [9]) (by kernel_rfl) (by simp) ?_
      refine AllReady.cons rfl (fun K hK => ?_) AllReady.nil
      go_simp
      refine hK _ _ ?_
      clear hK K
      refine wpAny_ready (rs := [10]) (by kernel_rfl) (by simp) ?_
      refine AllReady.cons rfl (fun K hK => ?_) AllReady.nil
      go_simp
      refine hK _ _ ?_
      clear hK K
      refine wpAny_ready (rs := [11]) (by kernel_rfl) (by simp) ?_
      refine AllReady.cons rfl (fun K hK => ?_) AllReady.nil
      go_simp
      refine hK _ _ ?_
      clear hK K
      refine wpAny_take (i := 12) (v := ?_) rfl (by kernel_rfl) (by kernel_rfl) (by kernel_rfl) (fun _ _ _ h => h) (Or.inl ⟨by rfl, ?_⟩) ?_
      rotate_left
      · intro w; go_simp; try rfl
      refine wpAny_take (i := 16) (v := ?_) rfl (by kernel_rfl) (by kernel_rfl) (by kernel_rfl) (fun _ _ _ h => h) (Or.inl ⟨by rfl, ?_⟩) ?_
      rotate_left
      · intro w; go_simp; try rfl
      refine wpAny_ready (rs := [13, 17]) (by kernel_rfl) (by simp) ?_
      refine AllReady.cons rfl (fun K hK => ?_) (AllReady.cons rfl (fun K hK => ?_) AllReady.nil)
      · go_simp
        refine hK _ _ ?_
        clear hK K
        refine wpAny_ready (rs := [14, 17]) (by kernel_rfl) (by simp) ?_
        refine AllReady.cons rfl (fun K hK => ?_) (AllReady.cons rfl (fun K hK => ?_) AllReady.nil)
        · go_simp
          refine (HRAW.out _ (HP.out.1.then_ HK2.out)).mono ?_
          rintro e w3 ⟨A3, c3, rfl, hk3, HC3⟩
          refine hK _ _ ?_
          clear hK K
          have HK3 := Lib.hid (HK2.out.then_ hk3)
          have q3 := HC2.out w3 (HP.out.1.then_ HK3.out)
          have q4 := HC3.out w3 (Keeps.refl _ _)
          clear hk3
          refine wpAny_ready (rs := [15, 17]) (by kernel_rfl) (by simp) ?_
          refine AllReady.cons rfl (fun K hK => ?_) (AllReady.cons rfl (fun K hK => ?_) AllReady.nil)
          · go_simp
            refine hK _ _ ?_
            clear hK K
            refine wpAny_ready (rs := [17]) (by kernel_rfl) (by simp) ?_
            refine AllReady.cons rfl (fun K hK => ?_) AllReady.nil
            go_simp
            refine hK _ _ ?_
            clear hK K
            refine wpAny_ready (rs := [18]) (by kernel_rfl) (by simp) ?_
            refine AllReady.cons rfl (fun K hK => ?_) AllReady.nil
            go_simp
            refine hK _ _ ?_
            clear hK K
            refine wpAny_ready (rs := [19]) (by kernel_rfl) (by simp) ?_
            refine AllReady.cons rfl (fun K hK => ?_) AllReady.nil
            go_simp
            refine hK _ _ ?_
            clear hK K
            refine wpAny_done (by kernel_rfl) ?_ _
            go_wp2_with fail
            go_meet
            exact ⟨rfl, HK3.out⟩
          · go_simp
            refine hK _ _ ?_
            clear hK K
            refine wpAny_ready (rs := [15]) (by kernel_rfl) (by simp) ?_
            refine AllReady.cons rfl (fun K hK => ?_) AllReady.nil
            go_simp
            refine hK _ _ ?_
            clear hK K
            refine wpAny_ready (rs := [18]) (by kernel_rfl) (by simp) ?_
            refine AllReady.cons rfl (fun K hK => ?_) AllReady.nil
            go_simp
            refine hK _ _ ?_
            clear hK K
            refine wpAny_ready (rs := [19]) (by kernel_rfl) (by simp) ?_
            refine AllReady.cons rfl (fun K hK => ?_) AllReady.nil
            go_simp
            refine hK _ _ ?_
            clear hK K
            refine wpAny_done (by kernel_rfl) ?_ _
            go_wp2_with fail
            go_meet
            exact ⟨rfl, HK3.out⟩
        · go_simp
          refine hK _ _ ?_
          clear hK K
          refine wpAny_ready (rs := [14]) (by kernel_rfl) (by simp) ?_
          refine AllReady.cons rfl (fun K hK => ?_) AllReady.nil
          go_simp
          refine (HRAW.out _ (HP.out.1.then_ HK2.out)).mono ?_
          rintro e w3 ⟨A3, c3, rfl, hk3, HC3⟩
          refine hK _ _ ?_
          clear hK K
          have HK3 := Lib.hid (HK2.out.then_ hk3)
          have q3 := HC2.out w3 (HP.out.1.then_ HK3.out)
          have q4 := HC3.out w3 (Keeps.refl _ _)
          clear hk3
          refine wpAny_ready (rs := [15]) (by kernel_rfl) (by simp) ?_
          refine AllReady.cons rfl (fun K hK => ?_) AllReady.nil
          go_simp
          refine hK _ _ ?_
          clear hK K
          refine wpAny_ready (rs := [18]) (by kernel_rfl) (by simp) ?_
          refine AllReady.cons rfl (fun K hK => ?_) AllReady.nil
          go_simp
          refine hK _ _ ?_
          clear hK K
          refine wpAny_ready (rs := [19]) (by kernel_rfl) (by simp) ?_
          refine AllReady.cons rfl (fun K hK => ?_) AllReady.nil
          go_simp
          refine hK _ _ ?_
          clear hK K
          refine wpAny_done (by kernel_rfl) ?_ _
          go_wp2_with fail
          go_meet
          exact ⟨rfl, HK3.out⟩
      · go_simp
        refine hK _ _ ?_
        clear hK K
        refine wpAny_ready (rs := [13]) (by kernel_rfl) (by simp) ?_
        refine AllReady.cons rfl (fun K hK => ?_) AllReady.nil
        go_simp
        refine hK _ _ ?_
        clear hK K
        refine wpAny_ready (rs := [14]) (by kernel_rfl) (by simp) ?_
        refine AllReady.cons rfl (fun K hK => ?_) AllReady.nil
        go_simp
        refine (HRAW.out _ (HP.out.1.then_ HK2.out)).mono ?_
        rintro e w3 ⟨A3, c3, rfl, hk3, HC3⟩
        refine hK _ _ ?_
        clear hK K
        have HK3 := Lib.hid (HK2.out.then_ hk3)
        have q3 := HC2.out w3 (HP.out.1.then_ HK3.out)
        have q4 := HC3.out w3 (Keeps.refl _ _)
        clear hk3
        refine wpAny_ready (rs := [15]) (by kernel_rfl) (by simp) ?_
        refine AllReady.cons rfl (fun K hK => ?_) AllReady.nil
        go_simp
        refine hK _ _ ?_
        clear hK K
        refine wpAny_ready (rs := [18]) (by kernel_rfl) (by simp) ?_
        refine AllReady.cons rfl (fun K hK => ?_) AllReady.nil
        go_simp
        refine hK _ _ ?_
        clear hK K
        refine wpAny_ready (rs := [19]) (by kernel_rfl) (by simp) ?_
        refine AllReady.cons rfl (fun K hK => ?_) AllReady.nil
        go_simp
        refine hK _ _ ?_
        clear hK K
        refine wpAny_done (by kernel_rfl) ?_ _
        go_wp2_with fail
        go_meet
        exact ⟨rfl, HK3.out⟩
    case rest =>
      obtain ⟨rfl, hk2⟩ := hcut
      have hz := HP.out.2.2.keep hk2 (by simp)
      have hp := HP.out.2.1.keep hk2 (by simp)
      have HF := Lib.hid (And.intro (HP.out.1.then_ hk2) (And.intro hz hp))
      rename_i wd
      by_cases hr : pgRaw l = l
      · rw [show (!(pgRaw l == l)) = false by simp [hr]]
        have HY := Lib.hid (show lookOk l = true by
          obtain ⟨h1, h2⟩ := HIFF.out.1 hr
          simp [lookOk, h1, h2, hn, HOK.out, withinB]; omega)
        have d0 := hz.cell 0
        have d1 := hz.cell 1
        have d2 := hz.cell 2
        have d3 := hz.cell 3
        simp only [List.getElem?_toArray, List.getElem?_cons_zero, List.getElem?_cons_succ] at d0 d1 d2 d3
        have g0 := hz.frozen 0
        have g1 := hz.frozen 1
        have g2 := hz.frozen 2
        have g3 := hz.frozen 3
        have e0 := hp.cell 0
        have e1 := hp.cell 1
        have e2 := hp.cell 2
        have e3 := hp.cell 3
        simp only [List.getElem?_toArray, List.getElem?_cons_zero, List.getElem?_cons_succ] at e0 e1 e2 e3
        have l1 := hz.lt
        have l2 := hp.lt
        have n1 : ¬ w.heap.size = W.heap.size := by omega
        have n2 : ¬ W.heap.size = w.heap.size := by omega
        clear hz hp hk2 hr
        go_wp2_with fail
        go_region
        all_goals go_wp2_with fail
        all_goals
          obtain ⟨pp1, pp2⟩ := page_put HF.out.2.1 (.int .i64 (pgKind l : Nat)) (.int .i64 (pgTxid l)) (.int .i64 (pgNext l : Nat)) (.slice (some ⟨bl, ol + 24, none⟩) (pgLen l) (c - 24))
          exact refLook_door _ _ w.heap.size _ _ _ _ _ _ rfl rfl rfl (pp1.keep (Keeps.drew _) (by simp)) _ (Or.inl ⟨HY.out, (HF.out.1.trans pp2 (fun x hx hl => by simp at hx; omega)).then_drew, some ⟨bl, ol + 24, none⟩, c - 24, by rw [pgBody_length l HL.out hn], HBODY.out w (Keeps.refl _ _)⟩)
      · rw [show (!(pgRaw l == l)) = true by simp [hr]]
        have HNO := Lib.hid (show lookOk l = false by
          cases hl' : lookOk l
          · rfl
          · exfalso
            apply hr
            rw [HIFF.out]
            simp [lookOk] at hl'
            exact ⟨hl'.1.2, hl'.2.1⟩)
        have d0 := hz.cell 0
        have d1 := hz.cell 1
        have d2 := hz.cell 2
        have d3 := hz.cell 3
        simp only [List.getElem?_toArray, List.getElem?_cons_zero, List.getElem?_cons_succ] at d0 d1 d2 d3
        have g0 := hz.frozen 0
        have g1 := hz.frozen 1
        have g2 := hz.frozen 2
        have g3 := hz.frozen 3
        clear hz hp hk2 hr
        go_wp2_with fail
        obtain ⟨pp1, pp2⟩ := page_put HF.out.2.1 (.int .i64 0) (.int .i64 0) (.int .i64 0) (.slice none 0 0)
        exact refLook_door _ _ w.heap.size _ _ _ _ _ _ rfl rfl rfl pp1 _ (Or.inr ⟨HNO.out, rfl, HF.out.1.trans pp2 (fun x hx hl => by simp at hx; omega)⟩)

/-- What the reference's Look answers. -/
def RefLookDone (w : World) (l : List UInt8) (e : Ending) (w' : World) : Prop :=
  Keeps w w' [] ∧
  ((lookErr l = 0 ∧ lookOk l = true ∧ l.length = 256 ∧ ∃ A c, e = .returned (.tuple #[.int .i64 (pgNum l : Nat), .agg #[.int .i64 (pgKind l : Nat), .int .i64 (pgTxid l), .int .i64 (pgNext l : Nat), .slice A (pgBody l).length c], .int .i64 0]) ∧ Bytes w w.heap.size (.slice A (pgBody l).length c) (pgBody l)) ∨
   (lookErr l ≠ 0 ∧ e = .returned (noLook (lookErr l))))

theorem refLook_any (w : World) (A : Option Addr) (c : Nat) (l : List UInt8) (hB : Bytes w w.heap.size (.slice A l.length c) l) (hlen : l.length ≤ 140737488351232) :
    Calls Try.prog 15 #[.slice A l.length c] w (RefLookDone w l) := by
  by_cases h1 : l.length = 256
  · by_cases h2 : beN (l.take 4) = crcSum (l.drop 4)
    · have : Calls Try.prog 15 #[.slice A 256 c] w (RefLookSays w l) := by
        by_cases hf : pgLen l ≤ 232 ∧ pageOk (pgKind l) (pgTxid l) (pgNext l) (pgLen l) = true ∧ pgNum l ≤ 4095
        · exact refLook_far w A c l hB h1 h2 hf.1 hf.2.1 hf.2.2
        · exact refLook_near w A c l hB h1 h2 hf
      rw [← h1] at this
      refine this.mono ?_
      rintro e w' (⟨h3, hk, hA⟩ | ⟨h3, rfl, hk⟩)
      · exact ⟨hk, .inl ⟨by simp [lookErr, h1, h2, h3], h3, h1, hA⟩⟩
      · have : lookErr l = 141 := by simp [lookErr, h1, h2, h3]
        exact ⟨hk, .inr ⟨by omega, by rw [this]; rfl⟩⟩
    · have := refLook_sum w A c l hB h1 h2
      rw [← h1] at this
      refine this.mono ?_
      rintro e w' ⟨rfl, hk⟩
      have : lookErr l = 140 := by simp [lookErr, h1, h2]
      exact ⟨hk, .inr ⟨by omega, by rw [this]; rfl⟩⟩
  · refine (refLook_len w A l.length c h1 hlen).mono ?_
    rintro e w' ⟨rfl, hk⟩
    have : lookErr l = 2 := by simp [lookErr, h1]
    exact ⟨hk, .inr ⟨by omega, by rw [this]; rfl⟩⟩
end Go.Proofs.Ythepcoifcoinoaa
