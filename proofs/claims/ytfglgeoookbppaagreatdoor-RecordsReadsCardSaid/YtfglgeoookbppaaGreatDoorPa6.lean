/- Package utf: raw. A region that draws its order and whose last operations stand in a row: those ahead of them are met once each, these are walked. -/
import Derived.Test.YtfglgeoookbppaaGreatDoorPa4
import Derived.Test.YtfglgeoookbppaaGreatDoorPa5
import Derived.Laws.BitsLemmas
import Derived.Test.YtfglgeoookbppaaGreatDoorPa3
import Derived.StillTail

namespace Go.Proofs.YtfglgeoookbppaaGreatDoor
open Go.RowKit

/-- What stands of a rune's bytes while they are made from behind. -/
def uFill (n r i : Nat) : List UInt8 := (List.range n).map fun j => if j ≤ i then 0 else u8 (128 + r / 64 ^ (n - 1 - j) % 64)
theorem uFill_len (n r i : Nat) : (uFill n r i).length = n := by simp [uFill]
theorem uFill_set {n r k : Nat} (hk : 0 < k) (hkn : k < n) : (uFill n r k).set k (u8 (128 + r / 64 ^ (n - 1 - k) % 64)) = uFill n r (k - 1) := by
 refine List.ext_getElem? fun j => ?_
 unfold uFill
 rw [List.getElem?_set, List.getElem?_map, List.getElem?_map, List.length_map, List.length_range]
 by_cases hj : j < n
 ·rw [List.getElem?_range hj]
  by_cases e : k = j
  ·subst e
   rw [if_pos rfl, if_pos hkn, Option.map_some, if_neg (by omega)]
  ·rw [if_neg e, Option.map_some, Option.map_some]
   by_cases h : j ≤ k
   ·rw [if_pos h, if_pos (by omega)]
   ·rw [if_neg h, if_neg (by omega)]
 ·have : (List.range n)[j]? = none := List.getElem?_eq_none (by simp; omega)
  rw [this, if_neg (by omega)]
  rfl
theorem uFill_end {r n : Nat} (_h : r ≤ 1114111) (hn : n = (uRaw r).length) : (uFill n r 0).set 0 (u8 (uLead n + r / 64 ^ (n - 1))) = uRaw r := by
 rw [uRaw_len] at hn
 unfold uRaw
 by_cases h1 : r < 128
 ·rw [if_pos h1] at hn ⊢
  subst hn
  simp [uFill, uLead, List.range_succ]
 ·rw [if_neg h1] at hn ⊢
  by_cases h2 : r < 2048
  ·rw [if_pos h2] at hn ⊢
   subst hn
   simp [uFill, uLead, List.range_succ]
  ·rw [if_neg h2] at hn ⊢
   by_cases h3 : r < 65536
   ·rw [if_pos h3] at hn ⊢
    subst hn
    simp [uFill, uLead, List.range_succ]
   ·rw [if_neg h3] at hn ⊢
    subst hn
    simp [uFill, uLead, List.range_succ]
theorem and63 {x : Nat} (h : x < 2147483648) : bits BinOp.and IntKind.i32 (x : Int) 63 = ((x % 64 : Nat) : Int) := by
 have := bits_mask .i32 31 (by decide) wraps_i32 6 (by decide) (x : Int) (by omega) (by omega)
 exact this
theorem or128 {y : Nat} (h : y < 64) : bits BinOp.or IntKind.i32 128 (y : Int) = ((128 + y : Nat) : Int) := by
 have := bits_join .i32 31 (by decide) wraps_i32 6 128 (y : Int) (by decide) (by decide) (by decide) (by omega) (by omega) (by omega)
 rw [this]; omega
theorem orLead {n x : Nat} (h : (n = 1 ∧ x < 128) ∨ (n = 2 ∧ x < 32) ∨ (n = 3 ∧ x < 16) ∨ (n = 4 ∧ x < 8)) : bits BinOp.or IntKind.u8 ((uLead n : Nat) : Int) (x : Int) = ((uLead n + x : Nat) : Int) := by
 rcases h with ⟨rfl, h⟩ | ⟨rfl, h⟩ | ⟨rfl, h⟩ | ⟨rfl, h⟩
 ·exact (bits_join .u8 8 (by decide) wraps_u8 7 0 (x : Int) (by decide) (by decide) (by decide) (by omega) (by omega) (by omega)).trans (by simp [uLead])
 ·exact (u8_or192 (x : Int) (by omega) (by omega)).trans (by simp [uLead])
 ·exact (u8_or224 (x : Int) (by omega) (by omega)).trans (by simp [uLead])
 ·exact (u8_or240 (x : Int) (by omega) (by omega)).trans (by simp [uLead])
set_option maxRecDepth 100000 in
set_option maxHeartbeats 4000000 in
theorem uRaw_any (w : World) (r : Nat) (h : r ≤ 1114111) : Calls Tryz.prog 178 #[.int .i32 (r : Int)] w fun e w' => ∃ b, e = .returned (.slice (some ⟨b, 0, none⟩) (uRaw r).length (uRaw r).length) ∧ Row w' b 5 (byC (uRaw r)) ∧ Keeps w w' [] := by
 obtain ⟨n, hn⟩ : ∃ n, (uRaw r).length = n := ⟨_, rfl⟩
 have HN := Lib.hid (show n = (uRaw r).length ∧ 1 ≤ n ∧ n ≤ 4 by
  rw [← hn, uRaw_len]
  refine ⟨rfl, ?_⟩
  split
  ·omega
  ·split
   ·omega
   ·split <;> omega)
 rw [hn]
 obtain ⟨Z, hZ⟩ : ∃ Z, byC (List.replicate n 0) = Z := ⟨_, rfl⟩
 have hmk : ∀ w : World, (Instr.makeSlice 39 (.int .i64 (n : Int)) (.int .i64 (n : Int))).run Tryz.prog w = .ok (.slice (some ⟨w.heap.size, 0, none⟩) n n) (w.alloc (.cells Z 5)) := fun w => by rw [← hZ]; exact mk_by w n (by have := HN.out; omega)
 have HZ := Lib.hid hZ
 clear hn hZ
 go_enter Tryz.func178, Tryz.ntmps178
 go_wp2_with fail
 refine (uLong_any w r h).mono ?_
 rintro e w1 ⟨rfl, hk⟩
 rw [← HN.out.1]
 have HS := Lib.hid hk.size
 have H1 := Lib.hid (And.intro (hk.then_alloc (.cells Z 5)) (Row.new w1 5 Z))
 have hwn : IntKind.i64.wrap ((n : Int) - 1) = (n : Int) - 1 := IntWalk.i64_in _ (by have := HN.out; omega)
 clear hk
 go_wp2_with fail
 clear hmk hwn
 go_loopw [0, 5] (fun a i wr => ∃ (k x : Nat) (z : Int), k < n ∧ z = k ∧ a = .int .i32 (x : Int) ∧ i = .int .i64 z ∧ Hid (x = r / 64 ^ (n - 1 - k) ∧ Row wr w1.heap.size 5 (byC (uFill n r k)) ∧ Keeps w wr [])) (fun _ i _ => (intOf i).toNat)
 case atStart =>
  refine ⟨n - 1, r, _, by have := HN.out; omega, by have := HN.out; omega, rfl, rfl, Lib.hid ⟨?_, ?_, H1.out.1⟩⟩
  ·rw [Nat.sub_self, Nat.pow_zero, Nat.div_one]
  ·have e : uFill n r (n - 1) = List.replicate n 0 := by
    unfold uFill
    refine List.ext_getElem? fun j => ?_
    rw [List.getElem?_map, List.getElem?_replicate]
    by_cases hj : j < n
    ·rw [List.getElem?_range hj, if_pos hj, Option.map_some, if_pos (by omega)]
    ·rw [List.getElem?_eq_none (by simp; omega), if_neg hj]; rfl
   rw [e, HZ.out]
   exact H1.out.2
 case round =>
  clear H1
  obtain ⟨k, x, z, hk, rfl, rfl, rfl, HR⟩ := hrel
  have hn4 := HN.out.2
  have hxr : x ≤ 1114111 := by rw [HR.out.1]; exact Nat.le_trans (Nat.div_le_self _ _) h
  by_cases hk0 : 0 < k
  ·have q := HR.out.2.1.cell k
   have f := HR.out.2.1.frozen k
   rw [byC_get _ (by rw [uFill_len]; exact hk)] at q
   have hkn : (k : Int) < n := by omega
   have hwk : IntKind.i64.wrap ((k : Int) - 1) = (k : Int) - 1 := IntWalk.i64_in _ (by omega)
   unfold byteV at q
   obtain ⟨y, hy⟩ : ∃ y, x % 64 = y := ⟨_, rfl⟩
   have hand : bits BinOp.and IntKind.i32 (x : Int) 63 = (y : Int) := by rw [← hy]; exact and63 (by omega)
   obtain ⟨v, hv⟩ : ∃ v, 128 + y = v := ⟨_, rfl⟩
   have hor : bits BinOp.or IntKind.i32 128 (y : Int) = (v : Int) := by rw [← hv]; exact or128 (by omega)
   have hvm : (v : Int) % 256 = v := by omega
   have HV := Lib.hid (show Value.int .u8 (v : Int) = byteV (u8 (128 + r / 64 ^ (n - 1 - k) % 64)) by
    unfold byteV
    rw [← HR.out.1, hy, hv, toNat_u8 (by omega)])
   have HW := Lib.hid (show w.heap.size ≤ w1.heap.size from HS.out)
   clear hy hv
   go_wp2_with fail
   refine ⟨⟨k - 1, x / 64, _, by omega, by omega, by go_num, rfl, Lib.hid ⟨?_, ?_, ?_⟩⟩, by simp [intOf]; omega⟩
   ·rw [HR.out.1, Nat.div_div_eq_div_mul, ← Nat.pow_succ]
    congr 2
    omega
   ·rw [HV.out, ← uFill_set hk0 hk, ← byC_set]
    exact HR.out.2.1.store k _
   ·exact HR.out.2.2.trans (Keeps.setCell _ _ _) (fun y hy hlt => by have := HW.out; simp at hy; omega)
  ·obtain rfl : k = 0 := by omega
   have HW := Lib.hid (show w.heap.size ≤ w1.heap.size from HS.out)
   have HX := Lib.hid (show (n = 1 ∧ x < 128) ∨ (n = 2 ∧ x < 32) ∨ (n = 3 ∧ x < 16) ∨ (n = 4 ∧ x < 8) by
    have e := HN.out.1
    have ex := HR.out.1
    rw [uRaw_len] at e
    by_cases h1 : r < 128
    ·rw [if_pos h1] at e; subst e; simp at ex; omega
    ·rw [if_neg h1] at e
     by_cases h2 : r < 2048
     ·rw [if_pos h2] at e; subst e; simp at ex; omega
     ·rw [if_neg h2] at e
      by_cases h3 : r < 65536
      ·rw [if_pos h3] at e; subst e; simp at ex; omega
      ·rw [if_neg h3] at e; subst e; simp at ex; omega)
   obtain ⟨v, hv⟩ : ∃ v, uLead n + x = v := ⟨_, rfl⟩
   rcases (show n = 1 ∨ n = 2 ∨ n = 3 ∨ n = 4 by omega) with rfl | rfl | rfl | rfl
   ·
    go_wp2_with fail
    refine (uClasses_any wr).mono ?_
    rintro e w2 ⟨rfl, hk2⟩
    unfold classC
    have hq := HR.out.2.1.keeps hk2
    have q := hq.cell 0
    have f := hq.frozen 0
    rw [byC_get _ (by rw [uFill_len]; exact hk)] at q
    unfold byteV at q
    have hor : bits BinOp.or IntKind.u8 0 (x : Int) = (v : Int) := by rw [← hv]; exact orLead (n := 1) (x := x) (by have := HX.out; omega)
    have hxm : (x : Int) % 256 = x := by have := HX.out; omega
    have hix := clsIx1
    have hfd := clsFd1
    have H2 := Lib.hid (And.intro hq (HR.out.2.2.then_ hk2))
    clear hq hk2
    go_wp2_with fail
    go_ret
    refine ⟨_, rfl, ?_, H2.out.2.trans (Keeps.setCell _ _ _) (fun y hy hlt => by have := HW.out; simp at hy; omega)⟩
    have hv8 : Value.int .u8 (v : Int) = byteV (u8 v) := by unfold byteV; rw [toNat_u8 (by have := HX.out; rw [← hv]; simp [uLead]; omega)]
    rw [hv8]
    have := H2.out.1.store 0 (byteV (u8 v))
    rw [byC_set, ← hv] at this
    rw [← uFill_end h HN.out.1]
    rw [← hv]
    rw [HR.out.1] at this ⊢
    exact this
   ·
    go_wp2_with fail
    refine (uClasses_any wr).mono ?_
    rintro e w2 ⟨rfl, hk2⟩
    unfold classC
    have hq := HR.out.2.1.keeps hk2
    have q := hq.cell 0
    have f := hq.frozen 0
    rw [byC_get _ (by rw [uFill_len]; exact hk)] at q
    unfold byteV at q
    have hor : bits BinOp.or IntKind.u8 192 (x : Int) = (v : Int) := by rw [← hv]; exact orLead (n := 2) (x := x) (by have := HX.out; omega)
    have hxm : (x : Int) % 256 = x := by have := HX.out; omega
    have hix := clsIx2
    have hfd := clsFd2
    have H2 := Lib.hid (And.intro hq (HR.out.2.2.then_ hk2))
    clear hq hk2
    go_wp2_with fail
    go_ret
    refine ⟨_, rfl, ?_, H2.out.2.trans (Keeps.setCell _ _ _) (fun y hy hlt => by have := HW.out; simp at hy; omega)⟩
    have hv8 : Value.int .u8 (v : Int) = byteV (u8 v) := by unfold byteV; rw [toNat_u8 (by have := HX.out; rw [← hv]; simp [uLead]; omega)]
    rw [hv8]
    have := H2.out.1.store 0 (byteV (u8 v))
    rw [byC_set, ← hv] at this
    rw [← uFill_end h HN.out.1]
    rw [← hv]
    rw [HR.out.1] at this ⊢
    exact this
   ·
    go_wp2_with fail
    refine (uClasses_any wr).mono ?_
    rintro e w2 ⟨rfl, hk2⟩
    unfold classC
    have hq := HR.out.2.1.keeps hk2
    have q := hq.cell 0
    have f := hq.frozen 0
    rw [byC_get _ (by rw [uFill_len]; exact hk)] at q
    unfold byteV at q
    have hor : bits BinOp.or IntKind.u8 224 (x : Int) = (v : Int) := by rw [← hv]; exact orLead (n := 3) (x := x) (by have := HX.out; omega)
    have hxm : (x : Int) % 256 = x := by have := HX.out; omega
    have hix := clsIx3
    have hfd := clsFd3
    have H2 := Lib.hid (And.intro hq (HR.out.2.2.then_ hk2))
    clear hq hk2
    go_wp2_with fail
    go_ret
    refine ⟨_, rfl, ?_, H2.out.2.trans (Keeps.setCell _ _ _) (fun y hy hlt => by have := HW.out; simp at hy; omega)⟩
    have hv8 : Value.int .u8 (v : Int) = byteV (u8 v) := by unfold byteV; rw [toNat_u8 (by have := HX.out; rw [← hv]; simp [uLead]; omega)]
    rw [hv8]
    have := H2.out.1.store 0 (byteV (u8 v))
    rw [byC_set, ← hv] at this
    rw [← uFill_end h HN.out.1]
    rw [← hv]
    rw [HR.out.1] at this ⊢
    exact this
   ·
    go_wp2_with fail
    refine (uClasses_any wr).mono ?_
    rintro e w2 ⟨rfl, hk2⟩
    unfold classC
    have hq := HR.out.2.1.keeps hk2
    have q := hq.cell 0
    have f := hq.frozen 0
    rw [byC_get _ (by rw [uFill_len]; exact hk)] at q
    unfold byteV at q
    have hor : bits BinOp.or IntKind.u8 240 (x : Int) = (v : Int) := by rw [← hv]; exact orLead (n := 4) (x := x) (by have := HX.out; omega)
    have hxm : (x : Int) % 256 = x := by have := HX.out; omega
    have hix := clsIx4
    have hfd := clsFd4
    have H2 := Lib.hid (And.intro hq (HR.out.2.2.then_ hk2))
    clear hq hk2
    go_wp2_with fail
    go_ret
    refine ⟨_, rfl, ?_, H2.out.2.trans (Keeps.setCell _ _ _) (fun y hy hlt => by have := HW.out; simp at hy; omega)⟩
    have hv8 : Value.int .u8 (v : Int) = byteV (u8 v) := by unfold byteV; rw [toNat_u8 (by have := HX.out; rw [← hv]; simp [uLead]; omega)]
    rw [hv8]
    have := H2.out.1.store 0 (byteV (u8 v))
    rw [byC_set, ← hv] at this
    rw [← uFill_end h HN.out.1]
    rw [← hv]
    rw [HR.out.1] at this ⊢
    exact this
end Go.Proofs.YtfglgeoookbppaaGreatDoor

namespace Go.Proofs.YtfglgeoookbppaaGreatDoor
open Go.RowKit

section
variable {P : Program} {R : World → World → Prop} {w0 : World} {ops : Array Oper} {vals : Tmp → Value}

theorem loose_tail_sound {n n0 : Nat} {lt : List Oper} {a0 : Act} {c : Nat → Option Value} {rd : Nat → List Tmp} {φ : Nat → List Value → Value → World → Prop} {E : Nat → List Ent} {Q : Exit → Act → World → Prop} (htr : ∀ x y z, R x y → R y z → R x z) (hrf : ∀ x, R x x)
  (hB : looseB n ops = true) (hsk : Region.sinkB .any ops n0 = true) (hch : Region.chainB .any ops n0 = true) (hn0 : n0 < ops.size) (hlt : ∀ j, lt[j]? = ops[n0 + j]?)
  (hsq : Region.seqB .any ops lt.length n0 ((Array.range ops.size).map fun k => decide (k < n0)) = true) (hul : unlisted ((Array.range ops.size).map fun k => decide (k < n0)) = lt.length) (hn : a0.tmps.size = n) (e0 : E 0 = [])
  (hs : ∀ k o, ops[k]? = some o → E (k + 1) = addEnt o.dst (c k) (rd k) (φ k) (E k) ∧ (∀ t ∈ rd k, waitsB ops o t = true) ∧ (k < n0 → ∀ W vals, R w0 W → knows R w0 vals (o.looksAt ops) W (E k) → opOk P R ops (fill vals (E k) a0) o (entOf (c k) (φ k ((rd k).map vals))) W))
  (hq : ∀ W vals, R w0 W → knowsAll R w0 vals W (E n0) → wpList P ops Q lt (fill vals (E n0) a0) W) :
  ∀ (fuel : Nat) (listed : Array Bool) (a : Act) (W : World), unlisted listed = fuel → (∀ t, n0 ≤ t → t < ops.size → listed.getD t true = false) → LooseInv R w0 ops a0 c rd φ listed a W → wpAny P .any ops Q fuel listed a W := by
 obtain ⟨b0, b1, b2, b3, b4⟩ := looseB_spec hB
 have hs1 := fun k o ho => (hs k o ho).1
 have hrd := fun k o ho => (hs k o ho).2.1
 have fin : ∀ (listed : Array Bool) (a : Act) (W : World), LooseInv R w0 ops a0 c rd φ listed a W → (∀ t, n0 ≤ t → t < ops.size → listed.getD t true = false) → (∀ k, k < n0 → listed.getD k false = true) → wpAny P .any ops Q (unlisted listed) listed a W := by
  intro listed a W hI htl hall
  have hle : listed = (Array.range ops.size).map fun k => decide (k < n0) := by
   refine Array.ext (by simp [hI.lsize]) fun k h1 h2 => ?_
   have hk : k < ops.size := by rw [← hI.lsize]; exact h1
   simp only [Array.getElem_map, Array.getElem_range]
   by_cases hkn : k < n0
   ·have := hall k hkn
    simp [h1] at this
    rw [this]
    simp [hkn]
   ·have := htl k (by omega) hk
    simp [h1] at this
    rw [this]
    simp [hkn]
  have hq := hq W (fun t => a.tmps.getD t undef) hI.world (knowsAll_table e0 hs1 n0 (by omega) (fun j o t hj ho hd hc => by
   obtain ⟨v, hv, W0, h1, h2, h3⟩ := hI.on j o t ho hd (hall j hj)
   refine ⟨W0, h1, h2, ?_⟩
   have : a.tmps.getD t undef = v := by simp [hv]
   show φ j _ (a.tmps.getD t undef) W0
   rw [this]
   simpa [entOf, hc] using h3) (fun j o hj ho hd hc => by
   obtain ⟨u, W0, h1, h2, h3⟩ := hI.onn j o ho hd (hall j hj)
   exact ⟨u, W0, h1, h2, by simpa [entOf, hc] using h3⟩))
  have hea : fill (fun t => a.tmps.getD t undef) (E n0) a0 = a := by
   obtain ⟨s1, s2⟩ := fill_size (vals := fun t => a.tmps.getD t undef) (E n0) a0
   have ht : (fill (fun t => a.tmps.getD t undef) (E n0) a0).tmps = a.tmps := by
    refine Array.ext_getElem? fun t => ?_
    by_cases hd : ∃ (k : Nat) (o : Oper), k < n0 ∧ ops[k]? = some o ∧ o.dst = some t
    ·obtain ⟨k, o, hk, ho, hd⟩ := hd
     rw [fill_near a0 hs1 b2 t (by rw [hn]; exact b1 k o t ho hd) k o ho hd n0 (by omega) hk]
     obtain ⟨v, hv, W0, _, _, h3⟩ := hI.on k o t ho hd (hall k hk)
     rw [hv]
     cases hc : c k with
     | none => simp [hv]
     | some u => simp [entOf, hc] at h3; simp [h3]
    ·rw [fill_far a0 e0 hs1 t n0 (by omega) (fun j o hj ho hdd => hd ⟨j, o, hj, ho, hdd⟩)]
     refine (hI.off t (fun k o ho hdd => ?_)).symm
     have hk : n0 ≤ k := by
      rcases Nat.lt_or_ge k n0 with h | h
      ·exact absurd ⟨k, o, h, ho, hdd⟩ hd
      ·exact h
     exact getD_both (htl k hk (Array.getElem?_eq_some_iff.1 ho).1)
   have hd' : (fill (fun t => a.tmps.getD t undef) (E n0) a0).defers = a.defers := by rw [s2, hI.defers]
   generalize fill (fun t => a.tmps.getD t undef) (E n0) a0 = b at *
   obtain ⟨bt, bd⟩ := b
   obtain ⟨at_, ad⟩ := a
   simp only at ht hd'
   rw [ht, hd']
  rw [hea] at hq
  rw [hle, hul]
  exact wpAny_of_seq lt n0 _ a W hlt hsq hq
 intro fuel
 induction fuel with
 | zero =>
  intro listed a W hu htl hI
  rw [← hu]
  refine fin listed a W hI htl fun k hk => ?_
  cases hl : listed.getD k false with
  | true => rfl
  | false =>
   have hl' : listed.getD k true = false := by
    have : k < listed.size := by rw [hI.lsize]; omega
    simpa [this] using hl
   have := (unlisted_set hl').1
   omega
 | succ fuel ih =>
  intro listed a W hu htl hI
  by_cases hpre : ∀ k, k < n0 → listed.getD k false = true
  ·rw [← hu]
   exact fin listed a W hI htl hpre
  have hex : ∃ k, k < n0 ∧ listed.getD k false = false := by
   simp only [Classical.not_forall] at hpre
   obtain ⟨k, hk, h⟩ := hpre
   exact ⟨k, hk, by simpa using h⟩
  have inv : HeadInv .any ops n0 listed := ⟨hI.lsize, hI.dep, htl⟩
  refine ⟨fun hr => ?_, fun i hi => ?_⟩
  ·exfalso
   have hall : ∀ m k, k < m → k < n0 → listed.getD k false = true := by
    intro m
    induction m with
    | zero => intro k h; omega
    | succ m ih =>
     intro k hk hks
     cases hl : listed.getD k false with
     | true => rfl
     | false =>
      exfalso
      have ho : ops[k]? = some (ops[k]'(by omega)) := Array.getElem?_eq_getElem (by omega)
      have hl' : listed.getD k true = false := by
       have : k < listed.size := by rw [hI.lsize]; omega
       simpa [this] using hl
      have : k ∈ Region.ready .any ops listed := mem_ready.2 ⟨hl', _, ho, fun e he hb => by
       have hlt := b3 k _ ho e he hb
       exact ih e.on (by omega) (by omega)⟩
      rw [hr] at this
      cases this
   obtain ⟨k, hk, h⟩ := hex
   rw [hall (k + 1) k (by omega) hk] at h
   cases h
  obtain ⟨hl, o, ho, hall⟩ := mem_ready.1 hi
  have hin : i < n0 := by
   rcases Nat.lt_or_ge i n0 with h | h
   ·exact h
   ·exfalso
    obtain ⟨k, hk, hkl⟩ := hex
    exact tail_waits hsk hch hn0 inv (n0 - k) k rfl hk (getD_in (by rw [hI.lsize]; omega) hkl) i h hi
  have hus := (unlisted_set hl).1
  have hi' : i < ops.size := (Array.getElem?_eq_some_iff.1 ho).1
  have hop := (hs i o ho).2.2 hin W (fun t => a.tmps.getD t undef) hI.world (knows_table e0 hs1 (o.looksAt ops) i (by omega) (fun j o' t hj ho' hd ht hc => by
   obtain ⟨_, e, he, hb, hon⟩ := (b4 i o t j o' ho ht ho' hd).resolve_right (fun h => absurd h.1 (by omega))
   obtain ⟨v, hv, W0, h1, h2, h3⟩ := hI.on j o' t ho' hd (hon ▸ hall e he hb)
   refine ⟨W0, h1, h2, ?_⟩
   have : a.tmps.getD t undef = v := by simp [hv]
   show φ j _ (a.tmps.getD t undef) W0
   rw [this]
   simpa [entOf, hc] using h3))
  have hop := opOk_congr (a' := a) (Region.noSelect_spec b0 i o · · ho) (fun t ht => by
   by_cases hd : ∃ (k : Nat) (o' : Oper), ops[k]? = some o' ∧ o'.dst = some t
   ·obtain ⟨k, o', ho', hd⟩ := hd
    rcases b4 i o t k o' ho ht ho' hd with ⟨hk, e, he, hb, hon⟩ | ⟨hk, e, he, hb, hon⟩
    case inr =>
     rw [fill_far a0 e0 hs1 t i (by omega) (fun j o2 hj ho2 hdd => by have := b2 j k o2 o' t ho2 ho' hdd hd; omega)]
     refine (hI.off t (fun k2 o2 ho2 hdd => ?_)).symm
     obtain rfl := b2 k2 k o2 o' t ho2 ho' hdd hd
     cases hlk : listed.getD k2 false with
     | false => rfl
     | true =>
      have := hI.dep k2 o' ho' hlk e he hb
      rw [hon] at this
      have hil : listed.getD i false = false := by
       have hi := (unlisted_set hl).2
       simpa [hi] using hl
      rw [hil] at this
      cases this
    rw [fill_near a0 hs1 b2 t (by rw [hn]; exact b1 k o' t ho' hd) k o' ho' hd i (by omega) hk]
    obtain ⟨v, hv, W0, _, _, h3⟩ := hI.on k o' t ho' hd (hon ▸ hall e he hb)
    rw [hv]
    cases hc : c k with
    | none => simp [hv]
    | some u => simp [entOf, hc] at h3; simp [h3]
   ·rw [fill_far a0 e0 hs1 t i (by omega) (fun j o' _ ho' hdd => hd ⟨j, o', ho', hdd⟩)]
    exact (hI.off t (fun k o' ho' hdd => absurd ⟨k, o', ho', hdd⟩ hd)).symm) hop
  have next : ∀ v W', R W W' → entOf (c i) (φ i ((rd i).map fun t => a.tmps.getD t undef)) v W' → wpAny P .any ops Q fuel (listed.setIfInBounds i true) (a.put o.dst v) W' := fun v W' hR hv =>
   ih _ _ _ (by omega) (fun t ht ht' => by rw [getD_set_ne true (by omega)]; exact htl t ht ht') (looseInv_next htr hrf hB hrd hn hI ho hl hall v hR hv)
  unfold wpOp
  simp only [ho]
  replace hop := hop.out
  split
  ·rename_i hw
   simp only [hw, if_true] at hop
   left
   unfold Oper.wp
   generalize (execOp a.eval o).run P W = r at *
   cases r with
   | ok x w' =>
    cases x <;> simp only [looseUpon] at hop <;> simp only [Oper.upon]
    ·exact next _ _ hop.1 hop.2
    ·exact next _ _ hop.1 hop.2
    ·exact hop.2.mono fun e w'' ⟨v, he, hR, hv⟩ => by subst he; exact next _ _ (htr _ _ _ hop.1 hR) hv
    ·exact hop.2.mono fun v w'' ⟨hR, hv⟩ => next _ _ (htr _ _ _ hop.1 hR) hv
   | halt x w' => simp only [looseUpon] at hop
  ·rename_i hw
   simp only [hw] at hop
   exact next _ _ (hrf _) hop

/-- A table for the operations ahead, carried on behind them. -/
theorem wpLoose_table_more {a0 : Act} {Q : List Ent → Prop} (n0 : Nat) (l : List Oper) (hn0 : n0 ≤ l.length) (h : wpLoose P R w0 ops a0 Q (l.take n0) []) :
  ∃ (E : Nat → List Ent) (c : Nat → Option Value) (rd : Nat → List Tmp) (φ : Nat → List Value → Value → World → Prop), E 0 = [] ∧
   (∀ k o, l[k]? = some o → E (k + 1) = addEnt o.dst (c k) (rd k) (φ k) (E k) ∧ (∀ t ∈ rd k, waitsB ops o t = true) ∧ (k < n0 → ∀ W vals, R w0 W → knows R w0 vals (o.looksAt ops) W (E k) → opOk P R ops (fill vals (E k) a0) o (entOf (c k) (φ k ((rd k).map vals))) W)) ∧ Q (E n0) := by
 obtain ⟨E, c, rd, φ, e0, hs, hq⟩ := wpLoose_table _ _ h
 have hlen : (l.take n0).length = n0 := by rw [List.length_take]; omega
 rw [hlen] at hq
 let more : Nat → List Ent := fun k => Nat.rec (motive := fun _ => List Ent) (E n0) (fun j e => addEnt ((l[n0 + j]?).bind (·.dst)) none [] (fun _ _ _ => True) e) k
 refine ⟨fun k => if k ≤ n0 then E k else more (k - n0), fun k => if k < n0 then c k else none, fun k => if k < n0 then rd k else [], fun k => if k < n0 then φ k else fun _ _ _ => True, by simp [e0], ?_, by simp [hq]⟩
 intro k o ho
 by_cases hk : k < n0
 ·have ho' : (l.take n0)[k]? = some o := by rw [List.getElem?_take_of_lt hk]; exact ho
  obtain ⟨h1, h2, h3⟩ := hs k o ho'
  simp only [hk, if_true, show k + 1 ≤ n0 from hk, show k ≤ n0 from Nat.le_of_lt hk]
  exact ⟨h1, h2, fun _ => h3⟩
 ·simp only [hk, if_false, show ¬ k + 1 ≤ n0 by omega]
  refine ⟨?_, (fun _ h => nomatch h), fun h => h.elim⟩
  have hm : more (k + 1 - n0) = addEnt o.dst none [] (fun _ _ _ => True) (more (k - n0)) := by
   rw [show k + 1 - n0 = (k - n0) + 1 by omega]
   show addEnt ((l[n0 + (k - n0)]?).bind (·.dst)) none [] (fun _ _ _ => True) (more (k - n0)) = _
   rw [show n0 + (k - n0) = k by omega, ho]
   rfl
  rw [hm]
  by_cases hk2 : k ≤ n0
  ·have : k = n0 := by omega
   subst this
   simp only [Nat.le_refl, if_true, Nat.sub_self]
   rfl
  ·simp only [hk2, if_false]

theorem wp_region_tail {id : Nat} {Q : Exit → Act → World → Prop} {a : Act} {w : World} {l : List Oper} (R : World → World → Prop) (n n0 : Nat) (hm : P.follows .mixedOrders = true) (hn : a.tmps.size = n)
  (hB : (looseB n l.toArray && Region.sinkB .any l.toArray n0 && Region.chainB .any l.toArray n0 && decide (n0 < l.length) && Region.seqB .any l.toArray (l.drop n0).length n0 ((Array.range l.toArray.size).map fun k => decide (k < n0)) && decide (unlisted ((Array.range l.toArray.size).map fun k => decide (k < n0)) = (l.drop n0).length)) = true)
  (hrf : ∀ x, R x x) (htr : ∀ x y z, R x y → R y z → R x z) (h0 : R w w.drew)
  (h : wpLoose P R w l.toArray a (fun env => ∀ W vals, R w W → knowsAll R w vals W env → wpList P l.toArray Q (l.drop n0) (fill vals env a) W) (l.take n0) []) : (Code.region id l.toArray true).wp P Q a w := by
 simp only [Bool.and_eq_true, decide_eq_true_eq] at hB
 obtain ⟨⟨⟨⟨⟨h1, h2⟩, h3⟩, h4⟩, h5⟩, h6⟩ := hB
 obtain ⟨E, c, rd, φ, e0, hs, hq⟩ := wpLoose_table_more n0 l (by omega) h
 refine wp_region_any hm (loose_tail_sound (w0 := w) (n0 := n0) (lt := l.drop n0) htr hrf h1 h2 h3 (by simpa using h4) (fun j => by simp) h5 h6 hn e0 (fun k o ho => hs k o (by simpa using ho)) hq _ _ _ _ ?_ (fun t ht ht' => ?_) ⟨h0, rfl, rfl, by simp, fun _ _ => rfl, fun k o d ho _ hk => ?_, fun k o ho _ hk => ?_, fun k o ho hk => ?_⟩)
 ·unfold unlisted
  simp
 ·simp only [List.size_toArray] at ht'
  simp [ht']
 all_goals
  exfalso
  by_cases h' : k < l.length <;> simp [h'] at hk
end
end Go.Proofs.YtfglgeoookbppaaGreatDoor
