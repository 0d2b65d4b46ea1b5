/- Walks over package meta (layer 6): a meta's page's bytes. Walks over the reference of layer 6: a meta's page's bytes. Plain law of a meta's page's bytes: which bytes are a meta's. Walks over the reference of layer 6: Parse. Walks over the reference of layer 6: Parse, where the number and the length are right. Walks over the reference of layer 6: Counts. -/
import Derived.Test.YthepcoifcoinoaaPRa26
import Derived.Test.YthepcoifcoinoaaPRa28
import Derived.Test.YthepcoifcoinoaaPRa24

namespace Go.Proofs.Ythepcoifcoinoaa
open Go.RowKit

/-- A meta's body, as bytes. -/
def metaBody (r f h : Int) : List UInt8 := mParts r.toNat f.toNat h.toNat 3
theorem metaBody_length (r f h : Int) : (metaBody r f h).length = 12 := mParts_length _ _ _ 3
/-- A meta's page's bytes. -/
def metaRaw (t r f h : Int) : List UInt8 := rawI (whereOf t) 1 t 0 (metaBody r f h)
theorem whereOf_ok (t : Int) : withinB (whereOf t) 0 4095 = true := by
  unfold whereOf withinB
  split <;> simp <;> omega
theorem metaPage_ok {t r f h : Int} (hk : metaOk t r f h = true) : pageOk 1 t 0 (metaBody r f h).length = true := by
  obtain ⟨h1, _⟩ := metaOk_true hk
  rw [metaBody_length, pageOk_dec]
  simp
  omega

set_option maxRecDepth 100000 in
set_option maxHeartbeats 4000000 in
theorem mRaw_no (t r f h : Int) (w : World) (hno : metaOk t r f h = false) :
    Calls Try.prog 29 #[.agg #[.int .i64 t, .int .i64 r, .int .i64 f, .int .i64 h]] w fun e w' => e = .returned (.tuple #[.slice none 0 0, .int .i64 2]) ∧ Keeps w w' [] := by
  have HE := Lib.hid (show metaErr t r f h = 2 by simp [metaErr, hno])
  clear hno
  go_enter Try.func29, Try.ntmps29
  go_wp2_with fail
  refine (mCheck_any t r f h _).mono ?_
  rintro e w1 ⟨rfl, hk1⟩
  rw [HE.out]
  have H1 := Lib.hid ((Keeps.alloc _ _).then_ hk1)
  clear hk1
  go_wp2
  go_ret2
  exact ⟨rfl, H1.out⟩

theorem Full.keeps {w w' : World} {base b o c : Nat} {l : List UInt8} (h : Full w base b o c l) (hk : Keeps w w' []) : Full w' base b o c l := h.keep hk (by simp)

theorem Full.mono {w : World} {base base' b o c : Nat} {l : List UInt8} (h : Full w base b o c l) (hb : base' ≤ base) : Full w base' b o c l :=
  ⟨h.len, h.cap, h.max, Nat.le_trans hb h.low, h.lt, own_base h.own hb⟩
set_option maxRecDepth 100000 in
set_option maxHeartbeats 4000000 in
theorem mRaw_yes (t r f h : Int) (w : World) (hok : metaOk t r f h = true) :
    Calls Try.prog 29 #[.agg #[.int .i64 t, .int .i64 r, .int .i64 f, .int .i64 h]] w fun e w' =>
      ∃ b o c', e = .returned (.tuple #[.slice (some ⟨b, o, none⟩) 256 c', .int .i64 0]) ∧ Full w' w.heap.size b o c' (metaRaw t r f h) ∧ Keeps w w' [] := by
  have HE := Lib.hid (show metaErr t r f h = 0 by simp [metaErr, hok])
  have HO := Lib.hid hok
  obtain ⟨_, hh, hr, hf⟩ := metaOk_true hok
  obtain ⟨r', rfl⟩ : ∃ n : Nat, r = n := Int.eq_ofNat_of_zero_le (by omega)
  obtain ⟨f', rfl⟩ : ∃ n : Nat, f = n := Int.eq_ofNat_of_zero_le (by omega)
  obtain ⟨h', rfl⟩ : ∃ n : Nat, h = n := Int.eq_ofNat_of_zero_le (by omega)
  have HS := Lib.hid (show r' < 4294967296 ∧ f' < 4294967296 ∧ h' < 4294967296 by omega)
  have HL := Lib.hid (metaBody_length (r' : Nat) (f' : Nat) (h' : Nat))
  clear hok hh hr hf
  go_enter Try.func29, Try.ntmps29
  go_wp2_with fail
  refine (mCheck_any t r' f' h' _).mono ?_
  rintro e w1 ⟨rfl, hk1⟩
  rw [HE.out]
  have r1 := (Row.new w 49 #[.int .i64 t, .int .i64 (r' : Nat), .int .i64 (f' : Nat), .int .i64 (h' : Nat)]).keep hk1 (by simp)
  have H1 := Lib.hid ((Keeps.alloc _ _).then_ hk1)
  have M1 := fun (W : World) (hW : Keeps w1 W []) => (r1.keep hW (by simp)).cell 0
  have M2 := fun (W : World) (hW : Keeps w1 W []) => (r1.keep hW (by simp)).cell 1
  have M3 := fun (W : World) (hW : Keeps w1 W []) => (r1.keep hW (by simp)).cell 2
  have M4 := fun (W : World) (hW : Keeps w1 W []) => (r1.keep hW (by simp)).cell 3
  clear hk1 r1
  go_wp2_with fail
  refine wp_region_keeps _ (by kernel_rfl) rfl (by kernel_rfl) ?_
  apply loose_is
  · intro W vals hW hkn
    clear hkn
    refine ⟨?_⟩
    simp only [fill]
    go_simp
    first | exact ⟨Keeps.refl _ _, rfl⟩ | exact ⟨Keeps.alloc _ _, rfl⟩
  simp only [addEnt]
  apply loose_is
  · intro W vals hW hkn
    clear hkn
    refine ⟨?_⟩
    simp only [fill]
    go_simp
    first | exact ⟨Keeps.refl _ _, rfl⟩ | exact ⟨Keeps.alloc _ _, rfl⟩
  simp only [addEnt]
  apply loose_is
  · intro W vals hW hkn
    clear hkn
    refine ⟨?_⟩
    simp only [fill]
    go_simp
    refine looseUpon_calls ?_
    refine (where_any t _).mono ?_; rintro e w2 ⟨rfl, rfl⟩; exact ⟨_, rfl, Keeps.refl _ _, rfl⟩
  simp only [addEnt]
  apply loose_is
  · intro W vals hW hkn
    clear hkn
    refine ⟨?_⟩
    simp only [fill]
    go_simp
    first | exact ⟨Keeps.refl _ _, rfl⟩ | exact ⟨Keeps.alloc _ _, rfl⟩
  simp only [addEnt]
  apply loose_is
  · intro W vals hW hkn
    clear hkn
    refine ⟨?_⟩
    simp only [fill]
    go_simp
    first | exact ⟨Keeps.refl _ _, rfl⟩ | exact ⟨Keeps.alloc _ _, rfl⟩
  simp only [addEnt]
  apply loose_is
  · intro W vals hW hkn
    clear hkn
    refine ⟨?_⟩
    simp only [fill]
    go_simp
    first | exact ⟨Keeps.refl _ _, rfl⟩ | exact ⟨Keeps.alloc _ _, rfl⟩
  simp only [addEnt]
  apply loose_is
  · intro W vals hW hkn
    clear hkn
    refine ⟨?_⟩
    simp only [fill]
    go_simp
    first | exact ⟨Keeps.refl _ _, rfl⟩ | exact ⟨Keeps.alloc _ _, rfl⟩
  simp only [addEnt]
  apply loose_is
  · intro W vals hW hkn
    clear hkn
    refine ⟨?_⟩
    simp only [fill]
    go_simp
    first | exact ⟨Keeps.refl _ _, rfl⟩ | exact ⟨Keeps.alloc _ _, rfl⟩
  simp only [addEnt]
  apply loose_is
  · intro W vals hW hkn
    clear hkn
    refine ⟨?_⟩
    simp only [fill]
    go_simp
    first | exact ⟨Keeps.refl _ _, rfl⟩ | exact ⟨Keeps.alloc _ _, rfl⟩
  simp only [addEnt]
  apply loose_is
  · intro W vals hW hkn
    clear hkn
    refine ⟨?_⟩
    simp only [fill]
    go_simp
    first | exact ⟨Keeps.refl _ _, rfl⟩ | exact ⟨Keeps.alloc _ _, rfl⟩
  simp only [addEnt]
  apply loose_is
  · intro W vals hW hkn
    clear hkn
    refine ⟨?_⟩
    simp only [fill]
    go_simp
    first | exact ⟨Keeps.refl _ _, rfl⟩ | exact ⟨Keeps.alloc _ _, rfl⟩
  simp only [addEnt]
  refine loose_has (fun v W => ∃ g, v = .slice (some ⟨g, 0, none⟩) 3 3 ∧ Row W g 2 #[.int .i64 (r' : Nat), .int .i64 (f' : Nat), .int .i64 (h' : Nat)]) (fun W vals hW hkn φ' hφ => ?_) ?_
  · simp only [knows] at hkn
    try simp only [and_true] at hkn
    skip
    refine ⟨?_⟩
    simp only [fill]
    go_simp
    exact looseUpon_value hφ (Keeps.alloc _ _) ⟨_, rfl, Row.new _ _ _⟩
  simp only [addEnt]
  refine loose_has (fun v W => ∃ A c, v = .slice A (metaBody (r' : Nat) (f' : Nat) (h' : Nat)).length c ∧ Bytes W W.heap.size v (metaBody (r' : Nat) (f' : Nat) (h' : Nat))) (fun W vals hW hkn φ' hφ => ?_) ?_
  · simp only [knows] at hkn
    try simp only [and_true] at hkn
    obtain ⟨W0, h0, h1, g, hv, hrow⟩ := hkn (by decide)
    refine ⟨?_⟩
    simp only [fill]
    go_simp
    exact looseUpon_has hφ ((mBody_any W g r' f' h' HS.out.1 HS.out.2.1 HS.out.2.2 (hrow.keeps h1)).mono (by rintro e w2 ⟨v, rfl, ho, hk⟩; obtain ⟨A, c, rfl, _⟩ := own_slice ho; exact ⟨_, rfl, hk, _, _, rfl, ho.bytes (by rw [mParts_length]; omega)⟩))
  simp only [addEnt]
  have hpo := Lib.hid (metaPage_ok HO.out)
  generalize hbd : metaBody (r' : Nat) (f' : Nat) (h' : Nat) = bd at *
  refine loose_has (fun v W => ∃ A c, v = .agg #[.int .i64 1, .int .i64 t, .int .i64 0, .slice A bd.length c] ∧ Bytes W W.heap.size (.slice A bd.length c) bd) (fun W vals hW hkn φ' hφ => ?_) ?_
  · simp only [knows] at hkn
    try simp only [and_true] at hkn
    obtain ⟨W0, h0, h1, A, c, hv, hb⟩ := hkn.1 (by decide)
    refine ⟨?_⟩
    simp only [fill]
    go_simp
    exact looseUpon_value hφ (Keeps.refl _ _) ⟨_, _, rfl, hv ▸ hb.keeps h1⟩
  simp only [addEnt]
  refine loose_has (fun v W => ∃ b o c', v = .tuple #[.slice (some ⟨b, o, none⟩) 256 c', .int .i64 0] ∧ Full W w1.heap.size b o c' (rawI (whereOf t) 1 t 0 bd)) (fun W vals hW hkn φ' hφ => ?_) ?_
  · simp only [knows] at hkn
    try simp only [and_true] at hkn
    obtain ⟨W0, h0, h1, A, c, hv, hb⟩ := hkn.1 (by decide)
    refine ⟨?_⟩
    simp only [fill]
    go_simp
    (with_reducible refine looseUpon_has hφ ?_; with_reducible refine ((raw256 W _ 1 t 0 A c bd (hb.keeps h1) hpo.out (whereOf_ok t)).mono ?_); rintro e w2 ⟨b, o, c', rfl, hf, hk⟩; exact ⟨_, rfl, hk, b, o, c', rfl, Full.mono hf hW.size⟩)
  simp only [addEnt]
  refine loose_has (fun v W => ∃ b o c', v = .slice (some ⟨b, o, none⟩) 256 c' ∧ Full W w1.heap.size b o c' (rawI (whereOf t) 1 t 0 bd)) (fun W vals hW hkn φ' hφ => ?_) ?_
  · simp only [knows] at hkn
    try simp only [and_true] at hkn
    obtain ⟨W0, h0, h1, b, o, c', hv, hb⟩ := hkn.1 (by decide)
    refine ⟨?_⟩
    simp only [fill]
    go_simp
    exact looseUpon_value hφ (Keeps.refl _ _) ⟨_, _, _, rfl, hb.keeps h1⟩
  simp only [addEnt]
  apply loose_is
  · intro W vals hW hkn
    simp only [knows] at hkn
    try simp only [and_true] at hkn
    obtain ⟨W0, h0, h1, b, o, c', hv, hb⟩ := hkn.2.1 (by decide)
    refine ⟨?_⟩
    simp only [fill]
    go_simp
    first | exact ⟨Keeps.refl _ _, rfl⟩ | exact ⟨Keeps.alloc _ _, rfl⟩
  simp only [addEnt]
  refine loose_has (fun v W => ∃ b o c', v = .slice (some ⟨b, o, none⟩) 256 c' ∧ Full W w1.heap.size b o c' (rawI (whereOf t) 1 t 0 bd)) (fun W vals hW hkn φ' hφ => ?_) ?_
  · simp only [knows] at hkn
    try simp only [and_true] at hkn
    obtain ⟨W0, h0, h1, b, o, c', hv, hb⟩ := hkn.1 (by decide)
    refine ⟨?_⟩
    simp only [fill]
    go_simp
    exact looseUpon_value hφ (Keeps.refl _ _) ⟨_, _, _, rfl, hb.keeps h1⟩
  simp only [addEnt]
  apply loose_is
  · intro W vals hW hkn
    clear hkn
    refine ⟨?_⟩
    simp only [fill]
    go_simp
    first | exact ⟨Keeps.refl _ _, rfl⟩ | exact ⟨Keeps.alloc _ _, rfl⟩
  simp only [addEnt]
  refine loose_nil (fun W vals hW hkn => ?_)
  simp only [knowsAll] at hkn
  try simp only [and_true] at hkn
  simp only [fill, Act.put, List.setIfInBounds_toArray, List.set_cons_succ, List.set_cons_zero]
  obtain ⟨⟨W0, h0, h1, b, o, c', hv, hb⟩, _⟩ := hkn
  have HF := Lib.hid (And.intro (hb.keeps h1) hW)
  clear h0 h1 hb
  rw [hv]
  go_wp2
  go_ret2
  exact ⟨b, o, c', rfl, by unfold metaRaw; rw [hbd]; exact HF.out.1.mono H1.out.size, H1.out.then_ HF.out.2⟩
end Go.Proofs.Ythepcoifcoinoaa

namespace Go.Proofs.Ythepcoifcoinoaa
open Go.RowKit

theorem mMod (t : Int) (h : 0 ≤ t) : t % 2 = whereOf t := by unfold whereOf; rw [if_neg (by omega)]
set_option maxRecDepth 100000 in
set_option maxHeartbeats 4000000 in
theorem mRefRaw (t r f h : Int) (w : World) (hok : metaOk t r f h = true) :
    Calls Try.prog 33 #[.agg #[.int .i64 t, .int .i64 r, .int .i64 f, .int .i64 h]] w fun e w' =>
      ∃ b o c', e = .returned (.slice (some ⟨b, o, none⟩) 256 c') ∧ Full w' w.heap.size b o c' (metaRaw t r f h) ∧ Keeps w w' [] := by
  obtain ⟨ht, hh, hr, hf⟩ := metaOk_true hok
  have HO := Lib.hid hok
  obtain ⟨r', rfl⟩ : ∃ n : Nat, r = n := Int.eq_ofNat_of_zero_le (by omega)
  obtain ⟨f', rfl⟩ : ∃ n : Nat, f = n := Int.eq_ofNat_of_zero_le (by omega)
  obtain ⟨h', rfl⟩ : ∃ n : Nat, h = n := Int.eq_ofNat_of_zero_le (by omega)
  have hr4 : r' ≤ 4096 := by omega
  have hf4 : f' ≤ 4096 := by omega
  have hh4 : h' ≤ 4096 := by omega
  obtain ⟨ht0, ht1⟩ := ht
  clear hok hh hr hf
  go_enter Try.func33, Try.ntmps33
  go_wp2_with fail
  have r1 := Row.new w 49 #[.int .i64 t, .int .i64 (r' : Nat), .int .i64 (f' : Nat), .int .i64 (h' : Nat)]
  have k1 := Keeps.alloc w (.cells #[.int .i64 t, .int .i64 (r' : Nat), .int .i64 (f' : Nat), .int .i64 (h' : Nat)] 49)
  obtain ⟨W, hW⟩ : ∃ W, w.alloc (.cells #[.int .i64 t, .int .i64 (r' : Nat), .int .i64 (f' : Nat), .int .i64 (h' : Nat)] 49) = W := ⟨_, rfl⟩
  rw [hW] at r1 k1 ⊢
  clear hW
  have hlt := r1.lt
  have H1 := Lib.hid (And.intro k1 r1)
  clear k1 r1
  go_loopw [3, 4] (fun s i wr => ∃ (j : Nat) (A : Option Addr) (c : Nat), j ≤ 3 ∧ i = .int .i64 j ∧ s = .slice A (mParts r' f' h' j).length c ∧ Owned wr W.heap.size s (mParts r' f' h' j) ∧ Keeps W wr []) (fun _ i _ => 3 - (intOf i).toNat)
  case atStart => exact ⟨0, none, 0, by omega, rfl, rfl, World.ownsRow_nil _ _ _ _, Keeps.refl _ _⟩
  case round =>
    obtain ⟨j, A, c, hj, rfl, rfl, ho, hk⟩ := hrel
    have hs := hk.size
    have hs0 := H1.out.1.size
    have r2 := H1.out.2.keep hk (by simp)
    have HJ := Lib.hid (And.intro ho (And.intro hk r2))
    have c0 := r2.cell 0
    have c1 := r2.cell 1
    have c2 := r2.cell 2
    have c3 := r2.cell 3
    simp only [List.getElem?_toArray, List.getElem?_cons_zero, List.getElem?_cons_succ] at c0 c1 c2 c3
    clear r2 ho hk
    by_cases hlt3 : j < 3
    · have HLn := Lib.hid (mParts_length r' f' h' j)
      have hrow := Row.new wr 2 #[.int .i64 (r' : Nat), .int .i64 (f' : Nat), .int .i64 (h' : Nat)]
      have hb : mNum r' f' h' j ≤ 4096 := by
        match j with
        | 0 => exact hr4
        | 1 => exact hf4
        | 2 => exact hh4
      have hcx := hrow.cell j
      rw [mNum_cell r' f' h' j hlt3] at hcx
      have HN := Lib.hid (show mParts r' f' h' (j + 1) = mParts r' f' h' j ++ toBE 4 (mNum r' f' h' j) from rfl)
      generalize mNum r' f' h' j = x at *
      go_wp2_with fail
      refine (refNumber_any _ x 4 (by omega) (by omega) (by omega)).mono ?_
      rintro e w2 ⟨v2, rfl, ho2, hk2⟩
      have hx4 : x / 256 ^ 4 = 0 := Nat.div_eq_of_lt (by omega)
      obtain ⟨A2, c2, rfl, _⟩ := own_slice ho2
      have K2 := (Keeps.alloc wr (.cells #[.int .i64 (r' : Nat), .int .i64 (f' : Nat), .int .i64 (h' : Nat)] 2)).then_ hk2
      have hs2 := K2.size
      have hl4 := Lib.hid (toBE_length 4 x)
      have H2 := Lib.hid (And.intro (own_keep HJ.out.1 K2 (by simp)) (And.intro (HJ.out.2.1.then_ K2) (ho2.bytes (by rw [hl4.out]; omega))))
      clear hk2 K2 ho2 hrow hcx hb hx4
      go_wp2_with (at_builtin; refine wpList_append_bytes _ rfl (.tmp 26) (.tmp 27) rfl W.heap.size (.slice A (mParts r' f' h' j).length c) (.slice A2 (toBE 4 x).length c2) (mParts r' f' h' j) (toBE 4 x) rfl rfl H2.out.1 H2.out.2.2 (by rw [hl4.out, HLn.out]; omega) (by omega) ?_; intro A3 c3 w3 l3 E3 hl3 ho3 hk3 hb3; have H3 := Lib.hid (And.intro ho3 (H2.out.2.1.trans hk3 (fun y hy hl => by have := (owned_lt H2.out.1 y (by simpa using hy)).1; omega))); clear ho3 hk3 hb3)
      have hl3' : l3 = mParts r' f' h' (j + 1) := by rw [HN.out]; exact E3
      subst hl3'
      refine ⟨⟨j + 1, A3, c3, by omega, by go_num, rfl, H3.out.1, H3.out.2⟩, by simp [intOf]; omega⟩
    · obtain rfl : j = 3 := by omega
      go_wp2_with fail
      have HB := Lib.hid (HJ.out.1.bytes (by rw [mParts_length]; omega))
      have hpo := metaPage_ok HO.out
      have hwo := whereOf_ok t
      rw [mMod t ht0]
      refine (refRaw256 wr (whereOf t) 1 t 0 A c (mParts r' f' h' 3) HB.out hpo hwo).mono ?_
      rintro e w2 ⟨b, o, c', rfl, hf, hk2⟩
      have H2 := Lib.hid (And.intro (hf.mono (Nat.le_trans H1.out.1.size hs)) (H1.out.1.then_ (HJ.out.2.1.then_ hk2)))
      clear hf hk2
      go_wp2
      go_ret
      exact ⟨b, o, c', rfl, H2.out.1, H2.out.2⟩
end Go.Proofs.Ythepcoifcoinoaa

namespace Go.Proofs.Ythepcoifcoinoaa
open Go.RowKit

/-- The numbers in a meta's body. -/
def mbNum (l : List UInt8) (j : Nat) : Nat := beN (((pgBody l).drop (4 * j)).take 4)
theorem mbNum_lt (l : List UInt8) (j : Nat) : mbNum l j < 4294967296 := by
  have h1 := beN_lt (((pgBody l).drop (4 * j)).take 4)
  have h2 : (((pgBody l).drop (4 * j)).take 4).length ≤ 4 := by rw [List.length_take]; omega
  have h3 : 256 ^ (((pgBody l).drop (4 * j)).take 4).length ≤ 256 ^ 4 := Nat.pow_le_pow_right (by omega) h2
  unfold mbNum
  have : (256 : Nat) ^ 4 = 4294967296 := by decide
  omega
/-- Are these bytes of a page a meta's at this number, but for its numbers? -/
def mpPage (n : Int) (l : List UInt8) : Bool := (parseErr n l == 0) && ((pgKind l == 1) && ((pgNext l == 0) && ((whereOf (pgTxid l) == n) && ((pgBody l).length == 12))))
def mpGood (l : List UInt8) : Bool := metaOk (pgTxid l) (mbNum l 0) (mbNum l 1) (mbNum l 2)
def mpErr (n : Int) (l : List UInt8) : Nat := if withinB n 0 1 && decide (l.length = 256) then (if mpPage n l && mpGood l then 0 else 160) else 2
def metaV (t r f h e : Int) : Value := .tuple #[.agg #[.int .i64 t, .int .i64 r, .int .i64 f, .int .i64 h], .int .i64 e]
def MParseDone (w : World) (n : Int) (l : List UInt8) (e : Ending) (w' : World) : Prop :=
  Keeps w w' [] ∧ ((mpErr n l = 0 ∧ e = .returned (metaV (pgTxid l) (mbNum l 0) (mbNum l 1) (mbNum l 2) 0)) ∨ (mpErr n l ≠ 0 ∧ e = .returned (metaV 0 0 0 0 (mpErr n l))))

theorem body12 (b : List UInt8) (h : b.length = 12) : mParts (beN ((b.drop 0).take 4)) (beN ((b.drop 4).take 4)) (beN ((b.drop 8).take 4)) 3 = b := by
  have e : ∀ j, j + 4 ≤ 12 → toBE 4 (beN ((b.drop j).take 4)) = (b.drop j).take 4 := fun j hj => toBE_beN _ 4 (by rw [List.length_take, List.length_drop]; omega)
  show [] ++ toBE 4 (beN ((b.drop 0).take 4)) ++ toBE 4 (beN ((b.drop 4).take 4)) ++ toBE 4 (beN ((b.drop 8).take 4)) = b
  rw [e 0 (by omega), e 4 (by omega), e 8 (by omega), List.nil_append, List.drop_zero]
  have h1 : b.take 4 ++ (b.drop 4).take 4 = b.take 8 := by
    rw [show (8 : Nat) = 4 + 4 from rfl, List.take_add]
  have h2 : b.take 8 ++ (b.drop 8).take 4 = b := by
    rw [← List.take_add, List.take_of_length_le (by omega)]
  rw [h1, h2]
theorem metaBody_pg (l : List UInt8) (h : (pgBody l).length = 12) : metaBody (mbNum l 0 : Nat) (mbNum l 1 : Nat) (mbNum l 2 : Nat) = pgBody l := body12 (pgBody l) h

theorem lookOk_parts {l : List UInt8} (hl : l.length = 256) (h : lookErr l = 0) :
    beN (l.take 4) = crcSum (l.drop 4) ∧ lookOk l = true ∧ pgLen l ≤ 232 ∧ pageOk (pgKind l) (pgTxid l) (pgNext l) (pgBody l).length = true ∧ withinB (pgNum l : Nat) 0 4095 = true ∧ pgRaw l = l := by
  unfold lookErr at h
  rw [if_neg (by simp [hl])] at h
  by_cases hs : beN (l.take 4) = crcSum (l.drop 4)
  · rw [if_neg (by simp [hs])] at h
    cases hk : lookOk l
    · simp [hk] at h
    · simp only [lookOk, Bool.and_eq_true, decide_eq_true_eq] at hk
      obtain ⟨⟨h1, h2⟩, h3, h4, h5⟩ := hk
      have hb := pgBody_length l hl h1
      exact ⟨hs, rfl, h1, by rw [hb]; exact h4, h5, (pgRaw_iff l hl hs h1 h4).2 ⟨h2, h3⟩⟩
  · rw [if_pos hs] at h
    cases h

/-- The document's test and the program's are one. -/
theorem metaRaw_iff {l : List UInt8} (hl : l.length = 256) (h : lookErr l = 0) (hb : (pgBody l).length = 12) (hg : mpGood l = true) :
    (metaRaw (pgTxid l) (mbNum l 0 : Nat) (mbNum l 1 : Nat) (mbNum l 2 : Nat) = l) ↔ (pgKind l = 1 ∧ pgNext l = 0 ∧ whereOf (pgTxid l) = (pgNum l : Nat)) := by
  obtain ⟨h1, h2, h3, h4, h5, h6⟩ := lookOk_parts hl h
  obtain ⟨ht, _⟩ := metaOk_true hg
  unfold metaRaw
  rw [metaBody_pg l hb]
  have hpo : pageOk 1 (pgTxid l) 0 (pgBody l).length = true := by rw [hb, pageOk_dec]; simp; omega
  constructor
  · intro he
    have hq := rawI_look (whereOf (pgTxid l)) 1 (pgTxid l) 0 (pgBody l) hpo (whereOf_ok _)
    rw [he] at hq
    obtain ⟨_, _, _, _, q1, q2, _, q4, _⟩ := hq
    exact ⟨by omega, by omega, q1.symm⟩
  · rintro ⟨e1, e2, e3⟩
    have : rawI (pgNum l : Nat) (pgKind l : Nat) (pgTxid l) (pgNext l : Nat) (pgBody l) = l := by
      unfold rawI
      simp only [Int.toNat_natCast]
      exact h6
    rw [e3]
    rw [e1, e2] at this
    exact this
end Go.Proofs.Ythepcoifcoinoaa

namespace Go.Proofs.Ythepcoifcoinoaa
open Go.RowKit

theorem meta_put {W : World} {b : Nat} {p0 p1 p2 p3 : Value} (h : Row W b 49 #[p0, p1, p2, p3]) (q0 q1 q2 q3 : Value) :
    Row ((((W.setCell ⟨b, 0, none⟩ q0).setCell ⟨b, 1, none⟩ q1).setCell ⟨b, 2, none⟩ q2).setCell ⟨b, 3, none⟩ q3) b 49 #[q0, q1, q2, q3] ∧
    Keeps W ((((W.setCell ⟨b, 0, none⟩ q0).setCell ⟨b, 1, none⟩ q1).setCell ⟨b, 2, none⟩ q2).setCell ⟨b, 3, none⟩ q3) [b] :=
  ⟨(((h.store 0 q0).store 1 q1).store 2 q2).store 3 q3, (((Keeps.setCell _ _ _).trans (Keeps.setCell _ _ _) (by simp)).trans (Keeps.setCell _ _ _) (by simp)).trans (Keeps.setCell _ _ _) (by simp)⟩
theorem mrParse_door (W : World) (t : Array Value) (b : Nat) (x0 x1 x2 x3 y : Value) (h4 : t.getD 4 undef = .pointer (some ⟨b, 0, none⟩)) (h5 : t.getD 5 undef = y)
    (r : Row W b 49 #[x0, x1, x2, x3]) (R : Ending → World → Prop) (hR : R (.returned (.tuple #[.agg #[x0, x1, x2, x3], y])) W) :
    bodyPost Try.prog Try.f28 R Exit.ret { tmps := t, defers := [] } W := by
  have c0 := r.cell 0
  have c1 := r.cell 1
  have c2 := r.cell 2
  have c3 := r.cell 3
  rw [Array.getD_eq_getD_getElem?] at h4 h5
  simp at c0 c1 c2 c3
  refine bodyPost_ret (v := .tuple #[.agg #[x0, x1, x2, x3], y]) ?_ rfl hR
  simp [results, Try.results28, go_sem, h4, h5, c0, c1, c2, c3]

theorem mpErr_out {n : Int} {l : List UInt8} (h : ¬ (withinB n 0 1 = true ∧ l.length = 256)) : mpErr n l = 2 := by
  unfold mpErr
  rw [if_neg]
  simpa using h
theorem mpErr_in {n : Int} {l : List UInt8} (h1 : withinB n 0 1 = true) (h2 : l.length = 256) : mpErr n l = if mpPage n l && mpGood l then 0 else 160 := by
  unfold mpErr
  rw [if_pos (by simp [h1, h2])]

set_option maxRecDepth 100000 in
set_option maxHeartbeats 4000000 in
theorem mrParse_out (w : World) (n : Int) (A : Option Addr) (c len : Nat) (_hlen : len ≤ 140737488351232) (h : ¬ (withinB n 0 1 = true ∧ len = 256)) :
    Calls Try.prog 28 #[.int .i64 n, .slice A len c] w fun e w' => e = .returned (metaV 0 0 0 0 2) ∧ Keeps w w' [] := by
  have hz := Row.new w 49 #[.int .i64 0, .int .i64 0, .int .i64 0, .int .i64 0]
  have HZ := Lib.hid hz
  clear hz
  by_cases h0 : n = 0
  · subst h0
    have hl : ((len : Int) != 256) = true := by simp [withinB] at h; simp; omega
    clear h
    go_enter Try.func28, Try.ntmps28
    go_wp2_with fail
    exact mrParse_door _ _ w.heap.size _ _ _ _ _ rfl rfl HZ.out _ ⟨rfl, Keeps.alloc _ _⟩
  · by_cases h1 : n = 1
    · subst h1
      have hl : ((len : Int) != 256) = true := by simp [withinB] at h; simp; omega
      clear h
      go_enter Try.func28, Try.ntmps28
      go_wp2_with fail
      exact mrParse_door _ _ w.heap.size _ _ _ _ _ rfl rfl HZ.out _ ⟨rfl, Keeps.alloc _ _⟩
    · have e0 : (n != 0) = true := by simp [h0]
      have e1 : (n != 1) = true := by simp [h1]
      clear h0 h1 h
      go_enter Try.func28, Try.ntmps28
      go_wp2_with fail
      exact mrParse_door _ _ w.heap.size _ _ _ _ _ rfl rfl HZ.out _ ⟨rfl, Keeps.alloc _ _⟩
end Go.Proofs.Ythepcoifcoinoaa

namespace Go.Proofs.Ythepcoifcoinoaa
open Go.RowKit

theorem read4 (W : World) (A : Option Addr) (c N : Nat) (l : List UInt8) (hN : l.length = N) (hL : Lies W W.heap.size A (l.map byteV)) (hc : N ≤ c) (hm : c ≤ 9223372036854775807) (h4 : 4 ≤ N) :
    Calls Try.prog 58 #[.slice A N c, .int .i64 4] W fun e w' => e = .returned (.tuple #[.int .u64 (beN (l.take 4) : Nat), .bool true]) ∧ W = w' := by
  subst hN
  exact refReadNum_any W A c 4 l hL hc (by simp only [maxLen]; omega) (by omega) h4

set_option maxRecDepth 100000 in
set_option maxHeartbeats 8000000 in
theorem mrParse_in (w : World) (n : Int) (A : Option Addr) (c : Nat) (l : List UInt8) (hn : n = 0 ∨ n = 1) (hl : l.length = 256) (hB : Bytes w w.heap.size (.slice A l.length c) l) :
    Calls Try.prog 28 #[.int .i64 n, .slice A l.length c] w (MParseDone w n l) := by
  have HE := Lib.hid (mpErr_in (n := n) (l := l) (by simp [withinB]; omega) hl)
  have HB := Lib.hid hB
  have HL := Lib.hid hl
  clear hB
  rw [hl]
  clear hl
  rcases hn with rfl | rfl
  · skip
    go_enter Try.func28, Try.ntmps28
    go_wp2_with fail
    have hz := Row.new w 49 #[.int .i64 0, .int .i64 0, .int .i64 0, .int .i64 0]
    have k1 := Keeps.alloc w (.cells #[.int .i64 0, .int .i64 0, .int .i64 0, .int .i64 0] 49)
    obtain ⟨W, hW⟩ : ∃ W, w.alloc (.cells #[.int .i64 0, .int .i64 0, .int .i64 0, .int .i64 0] 49) = W := ⟨_, rfl⟩
    rw [hW] at hz k1 ⊢
    clear hW
    have H1 := Lib.hid (And.intro k1 hz)
    clear k1 hz
    have hlook := refLook_any W A c l (HB.out.keeps H1.out.1) (by rw [HL.out]; omega)
    rw [HL.out] at hlook
    refine hlook.mono ?_
    clear hlook
    rintro e w2 ⟨hk2, ⟨h0, _, _, A2, c2, rfl, hb2⟩ | ⟨h0, rfl⟩⟩
    · have r2 := H1.out.2.keeps hk2
      have HP := Lib.hid h0
      by_cases hnum : ((pgNum l : Nat) : Int) = 0
      · by_cases h12 : (pgBody l).length = 12
        · rw [h12]
          have hb3 := hb2
          rw [h12] at hb3
          have hL := hb3.lies.keeps hk2
          obtain ⟨bb, ob, rfl, hbb, _⟩ := hL (by simp; omega)
          have hcap : 12 ≤ c2 ∧ c2 ≤ 9223372036854775807 := by
            obtain ⟨A', c', h1, h2, h3, h4, _⟩ := hb2
            injection h1 with e1 e2 e3
            subst e3
            simp only [maxLen] at h4
            omega
          obtain ⟨hc1, hc2⟩ := hcap
          have hcne : ¬ c2 = 4 := by omega
          have hcne8 : ¬ c2 = 8 := by omega
          have H2 := Lib.hid (And.intro (H1.out.1.then_ hk2) (And.intro r2 (And.intro hL (And.intro hnum h12))))
          have hlt := r2.lt
          clear hk2 r2 h0 hb2 hb3 hL h12
          rw [hnum]
          clear hnum
          go_wp2_with fail
          have r3 := Row.new w2 26 #[.int .i64 (pgKind l : Nat), .int .i64 (pgTxid l), .int .i64 (pgNext l : Nat), .slice (some ⟨bb, ob, none⟩) 12 c2]
          have k3 := Keeps.alloc w2 (.cells #[.int .i64 (pgKind l : Nat), .int .i64 (pgTxid l), .int .i64 (pgNext l : Nat), .slice (some ⟨bb, ob, none⟩) 12 c2] 26)
          obtain ⟨W3, hW3⟩ : ∃ W3, w2.alloc (.cells #[.int .i64 (pgKind l : Nat), .int .i64 (pgTxid l), .int .i64 (pgNext l : Nat), .slice (some ⟨bb, ob, none⟩) 12 c2] 26) = W3 := ⟨_, rfl⟩
          rw [hW3] at r3 k3 ⊢
          clear hW3
          have p0 := r3.cell 0
          have p1 := r3.cell 1
          have p2 := r3.cell 2
          have p3 := r3.cell 3
          simp only [List.getElem?_toArray, List.getElem?_cons_zero, List.getElem?_cons_succ] at p0 p1 p2 p3
          have H3 := Lib.hid (And.intro (H2.out.1.then_ k3) (And.intro (H2.out.2.1.keeps k3) (And.intro r3 (H2.out.2.2.1.keeps k3))))
          clear r3 k3
          have hb12 := Lib.hid H2.out.2.2.2.2
          refine (read4 W3 _ c2 12 (pgBody l) hb12.out H3.out.2.2.2 hc1 hc2 (by omega)).mono ?_
          rintro e w4 ⟨rfl, rfl⟩
          have hL4 := H3.out.2.2.2.cut (k := 4) (cap := c2) (by rw [List.length_map, hb12.out]; omega)
          have hL8 := H3.out.2.2.2.cut (k := 8) (cap := c2) (by rw [List.length_map, hb12.out]; omega)
          rw [if_neg hcne, ← List.map_drop] at hL4
          rw [if_neg hcne8, ← List.map_drop] at hL8
          have HL48 := Lib.hid (And.intro hL4 hL8)
          clear hL4 hL8
          go_wp2_with fail
          refine (read4 W3 _ (c2 - 4) 8 ((pgBody l).drop 4) (by rw [List.length_drop, hb12.out]) HL48.out.1 (by omega) (by omega) (by omega)).mono ?_
          rintro e w4 ⟨rfl, rfl⟩
          go_wp2_with fail
          refine (read4 W3 _ (c2 - 8) 4 ((pgBody l).drop 8) (by rw [List.length_drop, hb12.out]) HL48.out.2 (by omega) (by omega) (by omega)).mono ?_
          rintro e w4 ⟨rfl, rfl⟩
          have n0 := mbNum_lt l 0
          have n1 := mbNum_lt l 1
          have n2 := mbNum_lt l 2
          rw [show beN ((pgBody l).take 4) = mbNum l 0 from rfl, show beN (((pgBody l).drop 4).take 4) = mbNum l 1 from rfl, show beN (((pgBody l).drop 8).take 4) = mbNum l 2 from rfl]
          have HG := Lib.hid (show mpGood l = metaOk (pgTxid l) (mbNum l 0) (mbNum l 1) (mbNum l 2) from rfl)
          generalize hx0 : mbNum l 0 = x0 at *
          generalize hx1 : mbNum l 1 = x1 at *
          generalize hx2 : mbNum l 2 = x2 at *
          have HX := Lib.hid (And.intro hx0 (And.intro hx1 hx2))
          clear hx0 hx1 hx2
          go_wp2_with fail
          have r4 := Row.new W3 49 #[.int .i64 (pgTxid l), .int .i64 (x0 : Nat), .int .i64 (x1 : Nat), .int .i64 (x2 : Nat)]
          have k4 := Keeps.alloc W3 (.cells #[.int .i64 (pgTxid l), .int .i64 (x0 : Nat), .int .i64 (x1 : Nat), .int .i64 (x2 : Nat)] 49)
          obtain ⟨W4, hW4⟩ : ∃ W4, W3.alloc (.cells #[.int .i64 (pgTxid l), .int .i64 (x0 : Nat), .int .i64 (x1 : Nat), .int .i64 (x2 : Nat)] 49) = W4 := ⟨_, rfl⟩
          rw [hW4] at r4 k4 ⊢
          clear hW4 p0 p1 p2 p3
          have M1 := fun (W : World) (hW : Keeps W4 W []) => (r4.keep hW (by simp)).cell 0
          have M2 := fun (W : World) (hW : Keeps W4 W []) => (r4.keep hW (by simp)).cell 1
          have M3 := fun (W : World) (hW : Keeps W4 W []) => (r4.keep hW (by simp)).cell 2
          have M4 := fun (W : World) (hW : Keeps W4 W []) => (r4.keep hW (by simp)).cell 3
          have H4 := Lib.hid (And.intro (H3.out.1.then_ k4) (And.intro (H3.out.2.1.keeps k4) r4))
          clear r4 k4
          cases hg : mpGood l
          · have hm := HG.out
            rw [hg] at hm
            have HM := Lib.hid hm.symm
            have HGD := Lib.hid hg
            clear hg hm
            refine wp_region_keeps _ (by kernel_rfl) rfl (by kernel_rfl) ?_
            apply loose_is
            · intro W vals hW hkn
              clear hkn
              refine ⟨?_⟩
              simp only [fill]
              go_simp
              first | exact ⟨Keeps.refl _ _, rfl⟩ | exact ⟨Keeps.alloc _ _, rfl⟩
            simp only [addEnt]
            apply loose_is
            · intro W vals hW hkn
              clear hkn
              refine ⟨?_⟩
              simp only [fill]
              go_simp
              refine looseUpon_calls ?_
              refine (mRight_any _ _ _ _ _).mono ?_; rintro e w5 ⟨rfl, hk5⟩; rw [HM.out]; exact ⟨_, rfl, hk5, rfl⟩
            simp only [addEnt]
            apply loose_is
            · intro W vals hW hkn
              clear hkn
              refine ⟨?_⟩
              simp only [fill]
              go_simp
              first | exact ⟨Keeps.refl _ _, rfl⟩ | exact ⟨Keeps.alloc _ _, rfl⟩
            simp only [addEnt]
            apply loose_is
            · intro W vals hW hkn
              clear hkn
              refine ⟨?_⟩
              simp only [fill]
              go_simp
              first | exact ⟨Keeps.refl _ _, rfl⟩ | exact ⟨Keeps.alloc _ _, rfl⟩
            simp only [addEnt]
            refine loose_off (fun vals => by kernel_rfl) ?_
            simp only [addEnt]
            refine loose_off (fun vals => by kernel_rfl) ?_
            simp only [addEnt]
            refine loose_off (fun vals => by kernel_rfl) ?_
            simp only [addEnt]
            refine loose_off (fun vals => by kernel_rfl) ?_
            simp only [addEnt]
            refine loose_off (fun vals => by kernel_rfl) ?_
            simp only [addEnt]
            refine loose_off (fun vals => by kernel_rfl) ?_
            simp only [addEnt]
            apply loose_is
            · intro W vals hW hkn
              clear hkn
              refine ⟨?_⟩
              simp only [fill]
              go_simp
              first | exact ⟨Keeps.refl _ _, rfl⟩ | exact ⟨Keeps.alloc _ _, rfl⟩
            simp only [addEnt]
            refine loose_nil (fun W vals hW hkn => ?_)
            simp only [knowsAll] at hkn
            try simp only [and_true] at hkn
            simp only [fill, Act.put, List.setIfInBounds_toArray, List.set_cons_succ, List.set_cons_zero]
            have H5 := Lib.hid (And.intro (H4.out.1.then_ hW) (H4.out.2.1.keeps hW))
            have r5 := H5.out.2
            have d0 := r5.cell 0
            have d1 := r5.cell 1
            have d2 := r5.cell 2
            have d3 := r5.cell 3
            simp only [List.getElem?_toArray, List.getElem?_cons_zero, List.getElem?_cons_succ] at d0 d1 d2 d3
            have g0 := r5.frozen 0
            have g1 := r5.frozen 1
            have g2 := r5.frozen 2
            have g3 := r5.frozen 3
            clear hW r5
            go_wp2_with fail
            obtain ⟨pp1, pp2⟩ := meta_put H5.out.2 (.int .i64 0) (.int .i64 0) (.int .i64 0) (.int .i64 0)
            have he : mpErr 0 l = 160 := by rw [HE.out, HGD.out]; simp
            exact mrParse_door _ _ w.heap.size _ _ _ _ _ rfl rfl pp1 _ ⟨H5.out.1.trans pp2 (fun x hx hl => by simp at hx; omega), .inr ⟨by omega, by rw [he]; rfl⟩⟩
          · have hm := HG.out
            rw [hg] at hm
            have HM := Lib.hid hm.symm
            have hri := metaRaw_iff HL.out HP.out H2.out.2.2.2.2 hg
            rw [HX.out.1, HX.out.2.1, HX.out.2.2, H2.out.2.2.2.1] at hri
            have CB := Lib.hid (show ∀ W, Keeps W4 W [] → (convert 22 9 (.slice A 256 c)).run Try.prog W = .ok (.string ⟨l.toArray⟩) W from fun W hW => by
              have := conv_str W W.heap.size A c l ((HB.out.keeps (H4.out.1.then_ hW)).lies)
              rwa [HL.out] at this)
            have HGD := Lib.hid (And.intro hg hri)
            clear hg hm hri
            obtain ⟨RL, hRL⟩ : ∃ RL, metaRaw (pgTxid l) (x0 : Nat) (x1 : Nat) (x2 : Nat) = RL := ⟨_, rfl⟩
            refine wp_region_keeps _ (by kernel_rfl) rfl (by kernel_rfl) ?_
            apply loose_is
            · intro W vals hW hkn
              clear hkn
              refine ⟨?_⟩
              simp only [fill]
              go_simp
              first | exact ⟨Keeps.refl _ _, rfl⟩ | exact ⟨Keeps.alloc _ _, rfl⟩
            simp only [addEnt]
            apply loose_is
            · intro W vals hW hkn
              clear hkn
              refine ⟨?_⟩
              simp only [fill]
              go_simp
              refine looseUpon_calls ?_
              refine (mRight_any _ _ _ _ _).mono ?_; rintro e w5 ⟨rfl, hk5⟩; rw [HM.out]; exact ⟨_, rfl, hk5, rfl⟩
            simp only [addEnt]
            apply loose_is
            · intro W vals hW hkn
              clear hkn
              refine ⟨?_⟩
              simp only [fill]
              go_simp
              first | exact ⟨Keeps.refl _ _, rfl⟩ | exact ⟨Keeps.alloc _ _, rfl⟩
            simp only [addEnt]
            apply loose_is
            · intro W vals hW hkn
              clear hkn
              refine ⟨?_⟩
              simp only [fill]
              go_simp
              first | exact ⟨Keeps.refl _ _, rfl⟩ | exact ⟨Keeps.alloc _ _, rfl⟩
            simp only [addEnt]
            apply loose_is
            · intro W vals hW hkn
              clear hkn
              refine ⟨?_⟩
              simp only [fill]
              go_simp
              first | exact ⟨Keeps.refl _ _, rfl⟩ | exact ⟨Keeps.alloc _ _, rfl⟩
            simp only [addEnt]
            refine loose_has (fun v W => ∃ b o c', v = .slice (some ⟨b, o, none⟩) 256 c' ∧ Full W W4.heap.size b o c' RL) (fun W vals hW hkn φ' hφ => ?_) ?_
            · simp only [knows] at hkn
              try simp only [and_true] at hkn
              skip
              refine ⟨?_⟩
              simp only [fill]
              go_simp
              (with_reducible refine looseUpon_has hφ ?_; refine (mRefRaw _ _ _ _ W HM.out).mono ?_; rintro e w5 ⟨b, o, c', rfl, hf, hk⟩; exact ⟨_, rfl, hk, b, o, c', rfl, Full.mono (hRL ▸ hf) hW.size⟩)
            simp only [addEnt]
            apply loose_is
            · intro W vals hW hkn
              simp only [knows] at hkn
              try simp only [and_true] at hkn
              obtain ⟨W0, h0, h1, b, o, c', hv, hb⟩ := hkn (by decide); have hcs := (hb.keeps h1).str; clear hb
              refine ⟨?_⟩
              simp only [fill]
              go_simp
              first | exact ⟨Keeps.refl _ _, rfl⟩ | exact ⟨Keeps.alloc _ _, rfl⟩
            simp only [addEnt]
            apply loose_is
            · intro W vals hW hkn
              clear hkn
              refine ⟨?_⟩
              simp only [fill]
              go_simp
              first | exact ⟨Keeps.refl _ _, rfl⟩ | exact ⟨Keeps.alloc _ _, rfl⟩
            simp only [addEnt]
            apply loose_is
            · intro W vals hW hkn
              simp only [knows] at hkn
              try simp only [and_true] at hkn
              have hcs := CB.out W hW
              refine ⟨?_⟩
              simp only [fill]
              go_simp
              first | exact ⟨Keeps.refl _ _, rfl⟩ | exact ⟨Keeps.alloc _ _, rfl⟩
            simp only [addEnt]
            cases hq : (RL == l)
            · skip
              apply loose_is
              · intro W vals hW hkn
                clear hkn
                refine ⟨?_⟩
                simp only [fill]
                go_simp
                first | exact ⟨Keeps.refl _ _, rfl⟩ | exact ⟨Keeps.alloc _ _, rfl⟩
              simp only [addEnt]
              apply loose_is
              · intro W vals hW hkn
                clear hkn
                refine ⟨?_⟩
                simp only [fill]
                go_simp
                first | exact ⟨Keeps.refl _ _, rfl⟩ | exact ⟨Keeps.alloc _ _, rfl⟩
              simp only [addEnt]
              refine loose_nil (fun W vals hW hkn => ?_)
              simp only [knowsAll] at hkn
              try simp only [and_true] at hkn
              simp only [fill, Act.put, List.setIfInBounds_toArray, List.set_cons_succ, List.set_cons_zero]
              have H5 := Lib.hid (And.intro (H4.out.1.then_ hW) (And.intro (H4.out.2.1.keeps hW) (H4.out.2.2.keeps hW)))
              have r5 := H5.out.2.1
              have r6 := H5.out.2.2
              have d0 := r5.cell 0
              have d1 := r5.cell 1
              have d2 := r5.cell 2
              have d3 := r5.cell 3
              simp only [List.getElem?_toArray, List.getElem?_cons_zero, List.getElem?_cons_succ] at d0 d1 d2 d3
              have g0 := r5.frozen 0
              have g1 := r5.frozen 1
              have g2 := r5.frozen 2
              have g3 := r5.frozen 3
              have e0 := r6.cell 0
              have e1 := r6.cell 1
              have e2 := r6.cell 2
              have e3 := r6.cell 3
              simp only [List.getElem?_toArray, List.getElem?_cons_zero, List.getElem?_cons_succ] at e0 e1 e2 e3
              have hne5 : w.heap.size ≠ W3.heap.size := Nat.ne_of_lt H3.out.2.1.lt
              clear hW r5 r6 hkn
              go_wp2_with fail
              have hne : ¬ RL = l := by simpa using hq
              have hp : mpPage 0 l = false := by
                cases hp : mpPage 0 l
                · rfl
                · exfalso
                  simp only [mpPage, Bool.and_eq_true, beq_iff_eq] at hp
                  exact hne (hRL ▸ HGD.out.2.2 ⟨hp.2.1, hp.2.2.1, hp.2.2.2.1⟩)
              have he : mpErr 0 l = 160 := by rw [HE.out, hp]; simp
              obtain ⟨pp1, pp2⟩ := meta_put H5.out.2.1 (.int .i64 0) (.int .i64 0) (.int .i64 0) (.int .i64 0)
              exact mrParse_door _ _ w.heap.size _ _ _ _ _ rfl rfl pp1 _ ⟨H5.out.1.trans pp2 (fun x hx hl => by simp at hx; omega), .inr ⟨by omega, by rw [he]; rfl⟩⟩
            · skip
              apply loose_is
              · intro W vals hW hkn
                clear hkn
                refine ⟨?_⟩
                simp only [fill]
                go_simp
                first | exact ⟨Keeps.refl _ _, rfl⟩ | exact ⟨Keeps.alloc _ _, rfl⟩
              simp only [addEnt]
              apply loose_is
              · intro W vals hW hkn
                clear hkn
                refine ⟨?_⟩
                simp only [fill]
                go_simp
                first | exact ⟨Keeps.refl _ _, rfl⟩ | exact ⟨Keeps.alloc _ _, rfl⟩
              simp only [addEnt]
              refine loose_nil (fun W vals hW hkn => ?_)
              simp only [knowsAll] at hkn
              try simp only [and_true] at hkn
              simp only [fill, Act.put, List.setIfInBounds_toArray, List.set_cons_succ, List.set_cons_zero]
              have H5 := Lib.hid (And.intro (H4.out.1.then_ hW) (And.intro (H4.out.2.1.keeps hW) (H4.out.2.2.keeps hW)))
              have r5 := H5.out.2.1
              have r6 := H5.out.2.2
              have d0 := r5.cell 0
              have d1 := r5.cell 1
              have d2 := r5.cell 2
              have d3 := r5.cell 3
              simp only [List.getElem?_toArray, List.getElem?_cons_zero, List.getElem?_cons_succ] at d0 d1 d2 d3
              have g0 := r5.frozen 0
              have g1 := r5.frozen 1
              have g2 := r5.frozen 2
              have g3 := r5.frozen 3
              have e0 := r6.cell 0
              have e1 := r6.cell 1
              have e2 := r6.cell 2
              have e3 := r6.cell 3
              simp only [List.getElem?_toArray, List.getElem?_cons_zero, List.getElem?_cons_succ] at e0 e1 e2 e3
              have hne5 : w.heap.size ≠ W3.heap.size := Nat.ne_of_lt H3.out.2.1.lt
              clear hW r5 r6 hkn
              go_wp2_with fail
              have heq : RL = l := by simpa using hq
              have hp : mpPage 0 l = true := by
                obtain ⟨q1, q2, q3⟩ := HGD.out.2.1 (hRL.trans heq)
                have hpe : parseErr 0 l = 0 := by simp [parseErr, HP.out, H2.out.2.2.2.1, withinB]
                simp [mpPage, hpe, q1, q2, q3, H2.out.2.2.2.2]
              have he : mpErr 0 l = 0 := by rw [HE.out, hp, HGD.out.1]; simp
              obtain ⟨pp1, pp2⟩ := meta_put H5.out.2.1 (.int .i64 (pgTxid l)) (.int .i64 (x0 : Nat)) (.int .i64 (x1 : Nat)) (.int .i64 (x2 : Nat))
              exact mrParse_door _ _ w.heap.size _ _ _ _ _ rfl rfl pp1 _ ⟨H5.out.1.trans pp2 (fun x hx hl => by simp at hx; omega), .inl ⟨he, by rw [HX.out.1, HX.out.2.1, HX.out.2.2]; rfl⟩⟩
        · have HN := Lib.hid (show mpErr 0 l = 160 by
            have : mpPage 0 l = false := by simp [mpPage, h12]
            rw [HE.out, this]; simp)
          have h12' : (((pgBody l).length : Int) != 12) = true := by simp; omega
          have H2 := Lib.hid (And.intro (H1.out.1.then_ hk2) (And.intro r2 hnum))
          clear hk2 h0 hb2 h12
          rw [hnum]
          clear hnum
          have r5 := r2.alloc (.cells #[.int .i64 0, .int .i64 0, .int .i64 0, .int .i64 0] 26)
          have d0 := r2.cell 0
          have d1 := r2.cell 1
          have d2 := r2.cell 2
          have d3 := r2.cell 3
          simp only [List.getElem?_toArray, List.getElem?_cons_zero, List.getElem?_cons_succ] at d0 d1 d2 d3
          have g0 := r2.frozen 0
          have g1 := r2.frozen 1
          have g2 := r2.frozen 2
          have g3 := r2.frozen 3
          have hlt := r2.lt
          clear r2 r5
          go_wp2_with fail
          obtain ⟨pp1, pp2⟩ := meta_put H2.out.2.1 (.int .i64 0) (.int .i64 0) (.int .i64 0) (.int .i64 0)
          exact mrParse_door _ _ w.heap.size _ _ _ _ _ rfl rfl (by first | exact pp1.alloc _ | exact pp1) _ ⟨by first | exact ((H2.out.1.trans pp2 (fun x hx hl => by simp at hx; omega)).then_alloc _) | exact H2.out.1.trans pp2 (fun x hx hl => by simp at hx; omega), .inr ⟨by rw [HN.out]; omega, by rw [HN.out]; rfl⟩⟩
      · have HN := Lib.hid (show mpErr 0 l = 160 by
          have hpe : parseErr 0 l ≠ 0 := by unfold parseErr; rw [if_neg (by decide), if_neg (by simp [h0]), if_neg hnum]; decide
          have : mpPage 0 l = false := by simp [mpPage, hpe]
          rw [HE.out, this]; simp)
        have hnum' : (((pgNum l : Nat) : Int) != 0) = true := by simpa using hnum
        have H2 := Lib.hid (And.intro (H1.out.1.then_ hk2) (And.intro r2 True.intro))
        clear hk2 h0 hb2 hnum
        have r5 := r2.alloc (.cells #[.int .i64 0, .int .i64 0, .int .i64 0, .int .i64 0] 26)
        have d0 := r2.cell 0
        have d1 := r2.cell 1
        have d2 := r2.cell 2
        have d3 := r2.cell 3
        simp only [List.getElem?_toArray, List.getElem?_cons_zero, List.getElem?_cons_succ] at d0 d1 d2 d3
        have g0 := r2.frozen 0
        have g1 := r2.frozen 1
        have g2 := r2.frozen 2
        have g3 := r2.frozen 3
        have hlt := r2.lt
        clear r2 r5
        go_wp2_with fail
        obtain ⟨pp1, pp2⟩ := meta_put H2.out.2.1 (.int .i64 0) (.int .i64 0) (.int .i64 0) (.int .i64 0)
        exact mrParse_door _ _ w.heap.size _ _ _ _ _ rfl rfl (by first | exact pp1.alloc _ | exact pp1) _ ⟨by first | exact ((H2.out.1.trans pp2 (fun x hx hl => by simp at hx; omega)).then_alloc _) | exact H2.out.1.trans pp2 (fun x hx hl => by simp at hx; omega), .inr ⟨by rw [HN.out]; omega, by rw [HN.out]; rfl⟩⟩
    · have r2 := H1.out.2.keeps hk2
      have HN := Lib.hid (show mpErr 0 l = 160 by
        have : mpPage 0 l = false := by simp [mpPage, parseErr, h0, withinB]
        rw [HE.out, this]; simp)
      have h0' : (((lookErr l : Nat) : Int) != 0) = true := by simp; omega
      have H2 := Lib.hid (And.intro (H1.out.1.then_ hk2) (And.intro r2 True.intro))
      clear hk2 h0
      simp only [noLook]
      have r5 := r2.alloc (.cells #[.int .i64 0, .int .i64 0, .int .i64 0, .int .i64 0] 26)
      have d0 := r2.cell 0
      have d1 := r2.cell 1
      have d2 := r2.cell 2
      have d3 := r2.cell 3
      simp only [List.getElem?_toArray, List.getElem?_cons_zero, List.getElem?_cons_succ] at d0 d1 d2 d3
      have g0 := r2.frozen 0
      have g1 := r2.frozen 1
      have g2 := r2.frozen 2
      have g3 := r2.frozen 3
      have hlt := r2.lt
      clear r2 r5
      go_wp2_with fail
      obtain ⟨pp1, pp2⟩ := meta_put H2.out.2.1 (.int .i64 0) (.int .i64 0) (.int .i64 0) (.int .i64 0)
      exact mrParse_door _ _ w.heap.size _ _ _ _ _ rfl rfl (by first | exact pp1.alloc _ | exact pp1) _ ⟨by first | exact ((H2.out.1.trans pp2 (fun x hx hl => by simp at hx; omega)).then_alloc _) | exact H2.out.1.trans pp2 (fun x hx hl => by simp at hx; omega), .inr ⟨by rw [HN.out]; omega, by rw [HN.out]; rfl⟩⟩
  · skip
    go_enter Try.func28, Try.ntmps28
    go_wp2_with fail
    have hz := Row.new w 49 #[.int .i64 0, .int .i64 0, .int .i64 0, .int .i64 0]
    have k1 := Keeps.alloc w (.cells #[.int .i64 0, .int .i64 0, .int .i64 0, .int .i64 0] 49)
    obtain ⟨W, hW⟩ : ∃ W, w.alloc (.cells #[.int .i64 0, .int .i64 0, .int .i64 0, .int .i64 0] 49) = W := ⟨_, rfl⟩
    rw [hW] at hz k1 ⊢
    clear hW
    have H1 := Lib.hid (And.intro k1 hz)
    clear k1 hz
    have hlook := refLook_any W A c l (HB.out.keeps H1.out.1) (by rw [HL.out]; omega)
    rw [HL.out] at hlook
    refine hlook.mono ?_
    clear hlook
    rintro e w2 ⟨hk2, ⟨h0, _, _, A2, c2, rfl, hb2⟩ | ⟨h0, rfl⟩⟩
    · have r2 := H1.out.2.keeps hk2
      have HP := Lib.hid h0
      by_cases hnum : ((pgNum l : Nat) : Int) = 1
      · by_cases h12 : (pgBody l).length = 12
        · rw [h12]
          have hb3 := hb2
          rw [h12] at hb3
          have hL := hb3.lies.keeps hk2
          obtain ⟨bb, ob, rfl, hbb, _⟩ := hL (by simp; omega)
          have hcap : 12 ≤ c2 ∧ c2 ≤ 9223372036854775807 := by
            obtain ⟨A', c', h1, h2, h3, h4, _⟩ := hb2
            injection h1 with e1 e2 e3
            subst e3
            simp only [maxLen] at h4
            omega
          obtain ⟨hc1, hc2⟩ := hcap
          have hcne : ¬ c2 = 4 := by omega
          have hcne8 : ¬ c2 = 8 := by omega
          have H2 := Lib.hid (And.intro (H1.out.1.then_ hk2) (And.intro r2 (And.intro hL (And.intro hnum h12))))
          have hlt := r2.lt
          clear hk2 r2 h0 hb2 hb3 hL h12
          rw [hnum]
          clear hnum
          go_wp2_with fail
          have r3 := Row.new w2 26 #[.int .i64 (pgKind l : Nat), .int .i64 (pgTxid l), .int .i64 (pgNext l : Nat), .slice (some ⟨bb, ob, none⟩) 12 c2]
          have k3 := Keeps.alloc w2 (.cells #[.int .i64 (pgKind l : Nat), .int .i64 (pgTxid l), .int .i64 (pgNext l : Nat), .slice (some ⟨bb, ob, none⟩) 12 c2] 26)
          obtain ⟨W3, hW3⟩ : ∃ W3, w2.alloc (.cells #[.int .i64 (pgKind l : Nat), .int .i64 (pgTxid l), .int .i64 (pgNext l : Nat), .slice (some ⟨bb, ob, none⟩) 12 c2] 26) = W3 := ⟨_, rfl⟩
          rw [hW3] at r3 k3 ⊢
          clear hW3
          have p0 := r3.cell 0
          have p1 := r3.cell 1
          have p2 := r3.cell 2
          have p3 := r3.cell 3
          simp only [List.getElem?_toArray, List.getElem?_cons_zero, List.getElem?_cons_succ] at p0 p1 p2 p3
          have H3 := Lib.hid (And.intro (H2.out.1.then_ k3) (And.intro (H2.out.2.1.keeps k3) (And.intro r3 (H2.out.2.2.1.keeps k3))))
          clear r3 k3
          have hb12 := Lib.hid H2.out.2.2.2.2
          refine (read4 W3 _ c2 12 (pgBody l) hb12.out H3.out.2.2.2 hc1 hc2 (by omega)).mono ?_
          rintro e w4 ⟨rfl, rfl⟩
          have hL4 := H3.out.2.2.2.cut (k := 4) (cap := c2) (by rw [List.length_map, hb12.out]; omega)
          have hL8 := H3.out.2.2.2.cut (k := 8) (cap := c2) (by rw [List.length_map, hb12.out]; omega)
          rw [if_neg hcne, ← List.map_drop] at hL4
          rw [if_neg hcne8, ← List.map_drop] at hL8
          have HL48 := Lib.hid (And.intro hL4 hL8)
          clear hL4 hL8
          go_wp2_with fail
          refine (read4 W3 _ (c2 - 4) 8 ((pgBody l).drop 4) (by rw [List.length_drop, hb12.out]) HL48.out.1 (by omega) (by omega) (by omega)).mono ?_
          rintro e w4 ⟨rfl, rfl⟩
          go_wp2_with fail
          refine (read4 W3 _ (c2 - 8) 4 ((pgBody l).drop 8) (by rw [List.length_drop, hb12.out]) HL48.out.2 (by omega) (by omega) (by omega)).mono ?_
          rintro e w4 ⟨rfl, rfl⟩
          have n0 := mbNum_lt l 0
          have n1 := mbNum_lt l 1
          have n2 := mbNum_lt l 2
          rw [show beN ((pgBody l).take 4) = mbNum l 0 from rfl, show beN (((pgBody l).drop 4).take 4) = mbNum l 1 from rfl, show beN (((pgBody l).drop 8).take 4) = mbNum l 2 from rfl]
          have HG := Lib.hid (show mpGood l = metaOk (pgTxid l) (mbNum l 0) (mbNum l 1) (mbNum l 2) from rfl)
          generalize hx0 : mbNum l 0 = x0 at *
          generalize hx1 : mbNum l 1 = x1 at *
          generalize hx2 : mbNum l 2 = x2 at *
          have HX := Lib.hid (And.intro hx0 (And.intro hx1 hx2))
          clear hx0 hx1 hx2
          go_wp2_with fail
          have r4 := Row.new W3 49 #[.int .i64 (pgTxid l), .int .i64 (x0 : Nat), .int .i64 (x1 : Nat), .int .i64 (x2 : Nat)]
          have k4 := Keeps.alloc W3 (.cells #[.int .i64 (pgTxid l), .int .i64 (x0 : Nat), .int .i64 (x1 : Nat), .int .i64 (x2 : Nat)] 49)
          obtain ⟨W4, hW4⟩ : ∃ W4, W3.alloc (.cells #[.int .i64 (pgTxid l), .int .i64 (x0 : Nat), .int .i64 (x1 : Nat), .int .i64 (x2 : Nat)] 49) = W4 := ⟨_, rfl⟩
          rw [hW4] at r4 k4 ⊢
          clear hW4 p0 p1 p2 p3
          have M1 := fun (W : World) (hW : Keeps W4 W []) => (r4.keep hW (by simp)).cell 0
          have M2 := fun (W : World) (hW : Keeps W4 W []) => (r4.keep hW (by simp)).cell 1
          have M3 := fun (W : World) (hW : Keeps W4 W []) => (r4.keep hW (by simp)).cell 2
          have M4 := fun (W : World) (hW : Keeps W4 W []) => (r4.keep hW (by simp)).cell 3
          have H4 := Lib.hid (And.intro (H3.out.1.then_ k4) (And.intro (H3.out.2.1.keeps k4) r4))
          clear r4 k4
          cases hg : mpGood l
          · have hm := HG.out
            rw [hg] at hm
            have HM := Lib.hid hm.symm
            have HGD := Lib.hid hg
            clear hg hm
            refine wp_region_keeps _ (by kernel_rfl) rfl (by kernel_rfl) ?_
            apply loose_is
            · intro W vals hW hkn
              clear hkn
              refine ⟨?_⟩
              simp only [fill]
              go_simp
              first | exact ⟨Keeps.refl _ _, rfl⟩ | exact ⟨Keeps.alloc _ _, rfl⟩
            simp only [addEnt]
            apply loose_is
            · intro W vals hW hkn
              clear hkn
              refine ⟨?_⟩
              simp only [fill]
              go_simp
              refine looseUpon_calls ?_
              refine (mRight_any _ _ _ _ _).mono ?_; rintro e w5 ⟨rfl, hk5⟩; rw [HM.out]; exact ⟨_, rfl, hk5, rfl⟩
            simp only [addEnt]
            apply loose_is
            · intro W vals hW hkn
              clear hkn
              refine ⟨?_⟩
              simp only [fill]
              go_simp
              first | exact ⟨Keeps.refl _ _, rfl⟩ | exact ⟨Keeps.alloc _ _, rfl⟩
            simp only [addEnt]
            apply loose_is
            · intro W vals hW hkn
              clear hkn
              refine ⟨?_⟩
              simp only [fill]
              go_simp
              first | exact ⟨Keeps.refl _ _, rfl⟩ | exact ⟨Keeps.alloc _ _, rfl⟩
            simp only [addEnt]
            refine loose_off (fun vals => by kernel_rfl) ?_
            simp only [addEnt]
            refine loose_off (fun vals => by kernel_rfl) ?_
            simp only [addEnt]
            refine loose_off (fun vals => by kernel_rfl) ?_
            simp only [addEnt]
            refine loose_off (fun vals => by kernel_rfl) ?_
            simp only [addEnt]
            refine loose_off (fun vals => by kernel_rfl) ?_
            simp only [addEnt]
            refine loose_off (fun vals => by kernel_rfl) ?_
            simp only [addEnt]
            apply loose_is
            · intro W vals hW hkn
              clear hkn
              refine ⟨?_⟩
              simp only [fill]
              go_simp
              first | exact ⟨Keeps.refl _ _, rfl⟩ | exact ⟨Keeps.alloc _ _, rfl⟩
            simp only [addEnt]
            refine loose_nil (fun W vals hW hkn => ?_)
            simp only [knowsAll] at hkn
            try simp only [and_true] at hkn
            simp only [fill, Act.put, List.setIfInBounds_toArray, List.set_cons_succ, List.set_cons_zero]
            have H5 := Lib.hid (And.intro (H4.out.1.then_ hW) (H4.out.2.1.keeps hW))
            have r5 := H5.out.2
            have d0 := r5.cell 0
            have d1 := r5.cell 1
            have d2 := r5.cell 2
            have d3 := r5.cell 3
            simp only [List.getElem?_toArray, List.getElem?_cons_zero, List.getElem?_cons_succ] at d0 d1 d2 d3
            have g0 := r5.frozen 0
            have g1 := r5.frozen 1
            have g2 := r5.frozen 2
            have g3 := r5.frozen 3
            clear hW r5
            go_wp2_with fail
            obtain ⟨pp1, pp2⟩ := meta_put H5.out.2 (.int .i64 0) (.int .i64 0) (.int .i64 0) (.int .i64 0)
            have he : mpErr 1 l = 160 := by rw [HE.out, HGD.out]; simp
            exact mrParse_door _ _ w.heap.size _ _ _ _ _ rfl rfl pp1 _ ⟨H5.out.1.trans pp2 (fun x hx hl => by simp at hx; omega), .inr ⟨by omega, by rw [he]; rfl⟩⟩
          · have hm := HG.out
            rw [hg] at hm
            have HM := Lib.hid hm.symm
            have hri := metaRaw_iff HL.out HP.out H2.out.2.2.2.2 hg
            rw [HX.out.1, HX.out.2.1, HX.out.2.2, H2.out.2.2.2.1] at hri
            have CB := Lib.hid (show ∀ W, Keeps W4 W [] → (convert 22 9 (.slice A 256 c)).run Try.prog W = .ok (.string ⟨l.toArray⟩) W from fun W hW => by
              have := conv_str W W.heap.size A c l ((HB.out.keeps (H4.out.1.then_ hW)).lies)
              rwa [HL.out] at this)
            have HGD := Lib.hid (And.intro hg hri)
            clear hg hm hri
            obtain ⟨RL, hRL⟩ : ∃ RL, metaRaw (pgTxid l) (x0 : Nat) (x1 : Nat) (x2 : Nat) = RL := ⟨_, rfl⟩
            refine wp_region_keeps _ (by kernel_rfl) rfl (by kernel_rfl) ?_
            apply loose_is
            · intro W vals hW hkn
              clear hkn
              refine ⟨?_⟩
              simp only [fill]
              go_simp
              first | exact ⟨Keeps.refl _ _, rfl⟩ | exact ⟨Keeps.alloc _ _, rfl⟩
            simp only [addEnt]
            apply loose_is
            · intro W vals hW hkn
              clear hkn
              refine ⟨?_⟩
              simp only [fill]
              go_simp
              refine looseUpon_calls ?_
              refine (mRight_any _ _ _ _ _).mono ?_; rintro e w5 ⟨rfl, hk5⟩; rw [HM.out]; exact ⟨_, rfl, hk5, rfl⟩
            simp only [addEnt]
            apply loose_is
            · intro W vals hW hkn
              clear hkn
              refine ⟨?_⟩
              simp only [fill]
              go_simp
              first | exact ⟨Keeps.refl _ _, rfl⟩ | exact ⟨Keeps.alloc _ _, rfl⟩
            simp only [addEnt]
            apply loose_is
            · intro W vals hW hkn
              clear hkn
              refine ⟨?_⟩
              simp only [fill]
              go_simp
              first | exact ⟨Keeps.refl _ _, rfl⟩ | exact ⟨Keeps.alloc _ _, rfl⟩
            simp only [addEnt]
            apply loose_is
            · intro W vals hW hkn
              clear hkn
              refine ⟨?_⟩
              simp only [fill]
              go_simp
              first | exact ⟨Keeps.refl _ _, rfl⟩ | exact ⟨Keeps.alloc _ _, rfl⟩
            simp only [addEnt]
            refine loose_has (fun v W => ∃ b o c', v = .slice (some ⟨b, o, none⟩) 256 c' ∧ Full W W4.heap.size b o c' RL) (fun W vals hW hkn φ' hφ => ?_) ?_
            · simp only [knows] at hkn
              try simp only [and_true] at hkn
              skip
              refine ⟨?_⟩
              simp only [fill]
              go_simp
              (with_reducible refine looseUpon_has hφ ?_; refine (mRefRaw _ _ _ _ W HM.out).mono ?_; rintro e w5 ⟨b, o, c', rfl, hf, hk⟩; exact ⟨_, rfl, hk, b, o, c', rfl, Full.mono (hRL ▸ hf) hW.size⟩)
            simp only [addEnt]
            apply loose_is
            · intro W vals hW hkn
              simp only [knows] at hkn
              try simp only [and_true] at hkn
              obtain ⟨W0, h0, h1, b, o, c', hv, hb⟩ := hkn (by decide); have hcs := (hb.keeps h1).str; clear hb
              refine ⟨?_⟩
              simp only [fill]
              go_simp
              first | exact ⟨Keeps.refl _ _, rfl⟩ | exact ⟨Keeps.alloc _ _, rfl⟩
            simp only [addEnt]
            apply loose_is
            · intro W vals hW hkn
              clear hkn
              refine ⟨?_⟩
              simp only [fill]
              go_simp
              first | exact ⟨Keeps.refl _ _, rfl⟩ | exact ⟨Keeps.alloc _ _, rfl⟩
            simp only [addEnt]
            apply loose_is
            · intro W vals hW hkn
              simp only [knows] at hkn
              try simp only [and_true] at hkn
              have hcs := CB.out W hW
              refine ⟨?_⟩
              simp only [fill]
              go_simp
              first | exact ⟨Keeps.refl _ _, rfl⟩ | exact ⟨Keeps.alloc _ _, rfl⟩
            simp only [addEnt]
            cases hq : (RL == l)
            · skip
              apply loose_is
              · intro W vals hW hkn
                clear hkn
                refine ⟨?_⟩
                simp only [fill]
                go_simp
                first | exact ⟨Keeps.refl _ _, rfl⟩ | exact ⟨Keeps.alloc _ _, rfl⟩
              simp only [addEnt]
              apply loose_is
              · intro W vals hW hkn
                clear hkn
                refine ⟨?_⟩
                simp only [fill]
                go_simp
                first | exact ⟨Keeps.refl _ _, rfl⟩ | exact ⟨Keeps.alloc _ _, rfl⟩
              simp only [addEnt]
              refine loose_nil (fun W vals hW hkn => ?_)
              simp only [knowsAll] at hkn
              try simp only [and_true] at hkn
              simp only [fill, Act.put, List.setIfInBounds_toArray, List.set_cons_succ, List.set_cons_zero]
              have H5 := Lib.hid (And.intro (H4.out.1.then_ hW) (And.intro (H4.out.2.1.keeps hW) (H4.out.2.2.keeps hW)))
              have r5 := H5.out.2.1
              have r6 := H5.out.2.2
              have d0 := r5.cell 0
              have d1 := r5.cell 1
              have d2 := r5.cell 2
              have d3 := r5.cell 3
              simp only [List.getElem?_toArray, List.getElem?_cons_zero, List.getElem?_cons_succ] at d0 d1 d2 d3
              have g0 := r5.frozen 0
              have g1 := r5.frozen 1
              have g2 := r5.frozen 2
              have g3 := r5.frozen 3
              have e0 := r6.cell 0
              have e1 := r6.cell 1
              have e2 := r6.cell 2
              have e3 := r6.cell 3
              simp only [List.getElem?_toArray, List.getElem?_cons_zero, List.getElem?_cons_succ] at e0 e1 e2 e3
              have hne5 : w.heap.size ≠ W3.heap.size := Nat.ne_of_lt H3.out.2.1.lt
              clear hW r5 r6 hkn
              go_wp2_with fail
              have hne : ¬ RL = l := by simpa using hq
              have hp : mpPage 1 l = false := by
                cases hp : mpPage 1 l
                · rfl
                · exfalso
                  simp only [mpPage, Bool.and_eq_true, beq_iff_eq] at hp
                  exact hne (hRL ▸ HGD.out.2.2 ⟨hp.2.1, hp.2.2.1, hp.2.2.2.1⟩)
              have he : mpErr 1 l = 160 := by rw [HE.out, hp]; simp
              obtain ⟨pp1, pp2⟩ := meta_put H5.out.2.1 (.int .i64 0) (.int .i64 0) (.int .i64 0) (.int .i64 0)
              exact mrParse_door _ _ w.heap.size _ _ _ _ _ rfl rfl pp1 _ ⟨H5.out.1.trans pp2 (fun x hx hl => by simp at hx; omega), .inr ⟨by omega, by rw [he]; rfl⟩⟩
            · skip
              apply loose_is
              · intro W vals hW hkn
                clear hkn
                refine ⟨?_⟩
                simp only [fill]
                go_simp
                first | exact ⟨Keeps.refl _ _, rfl⟩ | exact ⟨Keeps.alloc _ _, rfl⟩
              simp only [addEnt]
              apply loose_is
              · intro W vals hW hkn
                clear hkn
                refine ⟨?_⟩
                simp only [fill]
                go_simp
                first | exact ⟨Keeps.refl _ _, rfl⟩ | exact ⟨Keeps.alloc _ _, rfl⟩
              simp only [addEnt]
              refine loose_nil (fun W vals hW hkn => ?_)
              simp only [knowsAll] at hkn
              try simp only [and_true] at hkn
              simp only [fill, Act.put, List.setIfInBounds_toArray, List.set_cons_succ, List.set_cons_zero]
              have H5 := Lib.hid (And.intro (H4.out.1.then_ hW) (And.intro (H4.out.2.1.keeps hW) (H4.out.2.2.keeps hW)))
              have r5 := H5.out.2.1
              have r6 := H5.out.2.2
              have d0 := r5.cell 0
              have d1 := r5.cell 1
              have d2 := r5.cell 2
              have d3 := r5.cell 3
              simp only [List.getElem?_toArray, List.getElem?_cons_zero, List.getElem?_cons_succ] at d0 d1 d2 d3
              have g0 := r5.frozen 0
              have g1 := r5.frozen 1
              have g2 := r5.frozen 2
              have g3 := r5.frozen 3
              have e0 := r6.cell 0
              have e1 := r6.cell 1
              have e2 := r6.cell 2
              have e3 := r6.cell 3
              simp only [List.getElem?_toArray, List.getElem?_cons_zero, List.getElem?_cons_succ] at e0 e1 e2 e3
              have hne5 : w.heap.size ≠ W3.heap.size := Nat.ne_of_lt H3.out.2.1.lt
              clear hW r5 r6 hkn
              go_wp2_with fail
              have heq : RL = l := by simpa using hq
              have hp : mpPage 1 l = true := by
                obtain ⟨q1, q2, q3⟩ := HGD.out.2.1 (hRL.trans heq)
                have hpe : parseErr 1 l = 0 := by simp [parseErr, HP.out, H2.out.2.2.2.1, withinB]
                simp [mpPage, hpe, q1, q2, q3, H2.out.2.2.2.2]
              have he : mpErr 1 l = 0 := by rw [HE.out, hp, HGD.out.1]; simp
              obtain ⟨pp1, pp2⟩ := meta_put H5.out.2.1 (.int .i64 (pgTxid l)) (.int .i64 (x0 : Nat)) (.int .i64 (x1 : Nat)) (.int .i64 (x2 : Nat))
              exact mrParse_door _ _ w.heap.size _ _ _ _ _ rfl rfl pp1 _ ⟨H5.out.1.trans pp2 (fun x hx hl => by simp at hx; omega), .inl ⟨he, by rw [HX.out.1, HX.out.2.1, HX.out.2.2]; rfl⟩⟩
        · have HN := Lib.hid (show mpErr 1 l = 160 by
            have : mpPage 1 l = false := by simp [mpPage, h12]
            rw [HE.out, this]; simp)
          have h12' : (((pgBody l).length : Int) != 12) = true := by simp; omega
          have H2 := Lib.hid (And.intro (H1.out.1.then_ hk2) (And.intro r2 hnum))
          clear hk2 h0 hb2 h12
          rw [hnum]
          clear hnum
          have r5 := r2.alloc (.cells #[.int .i64 0, .int .i64 0, .int .i64 0, .int .i64 0] 26)
          have d0 := r2.cell 0
          have d1 := r2.cell 1
          have d2 := r2.cell 2
          have d3 := r2.cell 3
          simp only [List.getElem?_toArray, List.getElem?_cons_zero, List.getElem?_cons_succ] at d0 d1 d2 d3
          have g0 := r2.frozen 0
          have g1 := r2.frozen 1
          have g2 := r2.frozen 2
          have g3 := r2.frozen 3
          have hlt := r2.lt
          clear r2 r5
          go_wp2_with fail
          obtain ⟨pp1, pp2⟩ := meta_put H2.out.2.1 (.int .i64 0) (.int .i64 0) (.int .i64 0) (.int .i64 0)
          exact mrParse_door _ _ w.heap.size _ _ _ _ _ rfl rfl (by first | exact pp1.alloc _ | exact pp1) _ ⟨by first | exact ((H2.out.1.trans pp2 (fun x hx hl => by simp at hx; omega)).then_alloc _) | exact H2.out.1.trans pp2 (fun x hx hl => by simp at hx; omega), .inr ⟨by rw [HN.out]; omega, by rw [HN.out]; rfl⟩⟩
      · have HN := Lib.hid (show mpErr 1 l = 160 by
          have hpe : parseErr 1 l ≠ 0 := by unfold parseErr; rw [if_neg (by decide), if_neg (by simp [h0]), if_neg hnum]; decide
          have : mpPage 1 l = false := by simp [mpPage, hpe]
          rw [HE.out, this]; simp)
        have hnum' : (((pgNum l : Nat) : Int) != 1) = true := by simpa using hnum
        have H2 := Lib.hid (And.intro (H1.out.1.then_ hk2) (And.intro r2 True.intro))
        clear hk2 h0 hb2 hnum
        have r5 := r2.alloc (.cells #[.int .i64 0, .int .i64 0, .int .i64 0, .int .i64 0] 26)
        have d0 := r2.cell 0
        have d1 := r2.cell 1
        have d2 := r2.cell 2
        have d3 := r2.cell 3
        simp only [List.getElem?_toArray, List.getElem?_cons_zero, List.getElem?_cons_succ] at d0 d1 d2 d3
        have g0 := r2.frozen 0
        have g1 := r2.frozen 1
        have g2 := r2.frozen 2
        have g3 := r2.frozen 3
        have hlt := r2.lt
        clear r2 r5
        go_wp2_with fail
        obtain ⟨pp1, pp2⟩ := meta_put H2.out.2.1 (.int .i64 0) (.int .i64 0) (.int .i64 0) (.int .i64 0)
        exact mrParse_door _ _ w.heap.size _ _ _ _ _ rfl rfl (by first | exact pp1.alloc _ | exact pp1) _ ⟨by first | exact ((H2.out.1.trans pp2 (fun x hx hl => by simp at hx; omega)).then_alloc _) | exact H2.out.1.trans pp2 (fun x hx hl => by simp at hx; omega), .inr ⟨by rw [HN.out]; omega, by rw [HN.out]; rfl⟩⟩
    · have r2 := H1.out.2.keeps hk2
      have HN := Lib.hid (show mpErr 1 l = 160 by
        have : mpPage 1 l = false := by simp [mpPage, parseErr, h0, withinB]
        rw [HE.out, this]; simp)
      have h0' : (((lookErr l : Nat) : Int) != 0) = true := by simp; omega
      have H2 := Lib.hid (And.intro (H1.out.1.then_ hk2) (And.intro r2 True.intro))
      clear hk2 h0
      simp only [noLook]
      have r5 := r2.alloc (.cells #[.int .i64 0, .int .i64 0, .int .i64 0, .int .i64 0] 26)
      have d0 := r2.cell 0
      have d1 := r2.cell 1
      have d2 := r2.cell 2
      have d3 := r2.cell 3
      simp only [List.getElem?_toArray, List.getElem?_cons_zero, List.getElem?_cons_succ] at d0 d1 d2 d3
      have g0 := r2.frozen 0
      have g1 := r2.frozen 1
      have g2 := r2.frozen 2
      have g3 := r2.frozen 3
      have hlt := r2.lt
      clear r2 r5
      go_wp2_with fail
      obtain ⟨pp1, pp2⟩ := meta_put H2.out.2.1 (.int .i64 0) (.int .i64 0) (.int .i64 0) (.int .i64 0)
      exact mrParse_door _ _ w.heap.size _ _ _ _ _ rfl rfl (by first | exact pp1.alloc _ | exact pp1) _ ⟨by first | exact ((H2.out.1.trans pp2 (fun x hx hl => by simp at hx; omega)).then_alloc _) | exact H2.out.1.trans pp2 (fun x hx hl => by simp at hx; omega), .inr ⟨by rw [HN.out]; omega, by rw [HN.out]; rfl⟩⟩
end Go.Proofs.Ythepcoifcoinoaa

namespace Go.Proofs.Ythepcoifcoinoaa
open Go.RowKit

theorem mrParse_any (w : World) (n : Int) (A : Option Addr) (c : Nat) (l : List UInt8) (hB : Bytes w w.heap.size (.slice A l.length c) l) :
    Calls Try.prog 28 #[.int .i64 n, .slice A l.length c] w (MParseDone w n l) := by
  by_cases h : withinB n 0 1 = true ∧ l.length = 256
  · exact mrParse_in w n A c l (by have := h.1; simp [withinB] at this; omega) h.2 hB
  · refine (mrParse_out w n A c l.length hB.len h).mono ?_
    rintro e w' ⟨rfl, hk⟩
    have := mpErr_out h
    exact ⟨hk, .inr ⟨by omega, by rw [this]; rfl⟩⟩

/-- The one of two runs of bytes that counts; does any? -/
def mcB (a b : List UInt8) : Bool := (mpErr 1 b == 0) && ((mpErr 0 a != 0) || decide (pgTxid a < pgTxid b))
def mcIs (a b : List UInt8) : Bool := mcB a b || mpErr 0 a == 0
def mAgg (l : List UInt8) : Value := .agg #[.int .i64 (pgTxid l), .int .i64 (mbNum l 0 : Nat), .int .i64 (mbNum l 1 : Nat), .int .i64 (mbNum l 2 : Nat)]
def mZero : Value := .agg #[.int .i64 0, .int .i64 0, .int .i64 0, .int .i64 0]
def mcV (a b : List UInt8) : Value := if mcB a b then mAgg b else if mpErr 0 a = 0 then mAgg a else mZero
theorem mrCounts_door (W : World) (t : Array Value) (b : Nat) (x0 x1 x2 x3 y : Value) (h4 : t.getD 4 undef = .pointer (some ⟨b, 0, none⟩)) (h5 : t.getD 5 undef = y)
    (r : Row W b 49 #[x0, x1, x2, x3]) (R : Ending → World → Prop) (hR : R (.returned (.tuple #[.agg #[x0, x1, x2, x3], y])) W) :
    bodyPost Try.prog Try.f26 R Exit.ret { tmps := t, defers := [] } W := by
  have c0 := r.cell 0
  have c1 := r.cell 1
  have c2 := r.cell 2
  have c3 := r.cell 3
  rw [Array.getD_eq_getD_getElem?] at h4 h5
  simp at c0 c1 c2 c3
  refine bodyPost_ret (v := .tuple #[.agg #[x0, x1, x2, x3], y]) ?_ rfl hR
  simp [results, Try.results26, go_sem, h4, h5, c0, c1, c2, c3]

set_option maxRecDepth 100000 in
set_option maxHeartbeats 4000000 in
theorem mrCounts_any (w : World) (A B : Option Addr) (c d : Nat) (a b : List UInt8) (hA : Bytes w w.heap.size (.slice A a.length c) a) (hB : Bytes w w.heap.size (.slice B b.length d) b) :
    Calls Try.prog 26 #[.slice A a.length c, .slice B b.length d] w fun e w' => e = .returned (.tuple #[mcV a b, .bool (mcIs a b)]) ∧ Keeps w w' [] := by
  have HA := Lib.hid (And.intro hA hB)
  have hl1 := hA.len
  have hl2 := hB.len
  clear hA hB
  go_enter Try.func26, Try.ntmps26
  go_wp2_with fail
  have hz := Row.new w 49 #[.int .i64 0, .int .i64 0, .int .i64 0, .int .i64 0]
  have k1 := Keeps.alloc w (.cells #[.int .i64 0, .int .i64 0, .int .i64 0, .int .i64 0] 49)
  obtain ⟨W, hW⟩ : ∃ W, w.alloc (.cells #[.int .i64 0, .int .i64 0, .int .i64 0, .int .i64 0] 49) = W := ⟨_, rfl⟩
  rw [hW] at hz k1 ⊢
  clear hW
  refine (mrParse_any W 0 A c a (HA.out.1.keeps k1)).mono ?_
  rintro e w2 ⟨hk2, hres⟩
  have H2 := Lib.hid (And.intro (k1.then_ hk2) (hz.keeps hk2))
  clear hk2 k1 hz
  obtain ⟨m0, m1, m2, m3, e1, rfl, he1, hv1⟩ : ∃ m0 m1 m2 m3 e1 : Int, e = .returned (metaV m0 m1 m2 m3 e1) ∧ e1 = (mpErr 0 a : Nat) ∧ (Value.agg #[.int .i64 m0, .int .i64 m1, .int .i64 m2, .int .i64 m3] = (if mpErr 0 a = 0 then mAgg a else mZero) ∧ (mpErr 0 a = 0 → m0 = pgTxid a)) := by
    rcases hres with ⟨h0, rfl⟩ | ⟨h0, rfl⟩
    · exact ⟨_, _, _, _, _, rfl, by rw [h0]; rfl, by rw [if_pos h0]; exact ⟨rfl, fun _ => rfl⟩⟩
    · exact ⟨_, _, _, _, _, rfl, rfl, by rw [if_neg h0]; exact ⟨rfl, fun h => absurd h h0⟩⟩
  clear hres
  have HV1 := Lib.hid (And.intro he1 hv1)
  clear he1 hv1
  simp only [metaV]
  go_wp2_with fail
  have r3 := Row.new w2 49 #[.int .i64 m0, .int .i64 m1, .int .i64 m2, .int .i64 m3]
  have k3 := Keeps.alloc w2 (.cells #[.int .i64 m0, .int .i64 m1, .int .i64 m2, .int .i64 m3] 49)
  obtain ⟨W3, hW3⟩ : ∃ W3, w2.alloc (.cells #[.int .i64 m0, .int .i64 m1, .int .i64 m2, .int .i64 m3] 49) = W3 := ⟨_, rfl⟩
  rw [hW3] at r3 k3 ⊢
  clear hW3
  refine (mrParse_any W3 1 B d b (HA.out.2.keeps (H2.out.1.then_ k3))).mono ?_
  rintro e w4 ⟨hk4, hres⟩
  have H4 := Lib.hid (And.intro ((H2.out.1.then_ k3).then_ hk4) (And.intro (H2.out.2.keeps (k3.then_ hk4)) (r3.keeps hk4)))
  clear hk4 k3 r3
  obtain ⟨n0, n1, n2, n3, e2, rfl, he2, hv2⟩ : ∃ m0 m1 m2 m3 e1 : Int, e = .returned (metaV m0 m1 m2 m3 e1) ∧ e1 = (mpErr 1 b : Nat) ∧ (mpErr 1 b = 0 → (Value.agg #[.int .i64 m0, .int .i64 m1, .int .i64 m2, .int .i64 m3] = mAgg b ∧ m0 = pgTxid b)) := by
    rcases hres with ⟨h0, rfl⟩ | ⟨h0, rfl⟩
    · exact ⟨_, _, _, _, _, rfl, by rw [h0]; rfl, fun _ => ⟨rfl, rfl⟩⟩
    · exact ⟨_, _, _, _, _, rfl, rfl, fun h => absurd h h0⟩
  clear hres
  have HV2 := Lib.hid (And.intro he2 hv2)
  clear he2 hv2
  simp only [metaV]
  have r4 := H4.out.2.1
  have r5 := H4.out.2.2
  have p0 := r4.cell 0
  have p1 := r4.cell 1
  have p2 := r4.cell 2
  have p3 := r4.cell 3
  simp only [List.getElem?_toArray, List.getElem?_cons_zero, List.getElem?_cons_succ] at p0 p1 p2 p3
  have g0 := r4.frozen 0
  have g1 := r4.frozen 1
  have g2 := r4.frozen 2
  have g3 := r4.frozen 3
  have q0 := r5.cell 0
  have q1 := r5.cell 1
  have q2 := r5.cell 2
  have q3 := r5.cell 3
  simp only [List.getElem?_toArray, List.getElem?_cons_zero, List.getElem?_cons_succ] at q0 q1 q2 q3
  have hlt4 := r4.lt
  have hlt5 := r5.lt
  have hne : w.heap.size ≠ w2.heap.size := Nat.ne_of_lt H2.out.2.lt
  have hne4 : w.heap.size ≠ w4.heap.size := Nat.ne_of_lt r4.lt
  have hne5 : w2.heap.size ≠ w4.heap.size := Nat.ne_of_lt r5.lt
  clear r4 r5
  by_cases h2 : e2 = 0
  · by_cases h1 : e1 = 0
    · by_cases h3 : m0 < n0
      · have d3 : decide (m0 < n0) = true := by simpa using h3
        have HH := Lib.hid (And.intro h1 (And.intro h2 h3))
        have e20 : (e2 == 0) = true := by simp [h2]
        have e10 : (e1 != 0) = false := by simp [h1]
        have e11 : (e1 == 0) = true := by simp [h1]
        clear h1 h2 h3
        go_wp2_with fail
        obtain ⟨pp1, pp2⟩ := meta_put H4.out.2.1 (.int .i64 n0) (.int .i64 n1) (.int .i64 n2) (.int .i64 n3)
        refine mrCounts_door _ _ w.heap.size _ _ _ _ (.bool (true)) rfl rfl (by first | exact pp1.alloc _ | exact pp1) _ ⟨?_, by first | exact ((H4.out.1.trans pp2 (fun x hx hl => by simp at hx; omega)).then_alloc _) | exact H4.out.1.trans pp2 (fun x hx hl => by simp at hx; omega)⟩
        refine congrArg Ending.returned (congrArg Value.tuple ?_)
        have h1 := HV1.out.1.symm.trans HH.out.1
        have h2 := HV2.out.1.symm.trans HH.out.2.1
        have h1' : mpErr 0 a = 0 := by omega
        have h2' : mpErr 1 b = 0 := by omega
        obtain ⟨v1, v2⟩ := HV2.out.2 h2'
        have hm : mcB a b = true := by simp [mcB, h1', h2', ← v2, ← HV1.out.2.2 h1']; exact HH.out.2.2
        rw [v1, mcV, mcIs, hm]; simp only [if_true, Bool.true_or]
      · have d3 : decide (m0 < n0) = false := by simpa using h3
        have HH := Lib.hid (And.intro h1 (And.intro h2 h3))
        have e20 : (e2 == 0) = true := by simp [h2]
        have e10 : (e1 != 0) = false := by simp [h1]
        have e11 : (e1 == 0) = true := by simp [h1]
        clear h1 h2 h3
        go_wp2_with fail
        obtain ⟨pp1, pp2⟩ := meta_put H4.out.2.1 (.int .i64 m0) (.int .i64 m1) (.int .i64 m2) (.int .i64 m3)
        refine mrCounts_door _ _ w.heap.size _ _ _ _ (.bool (true)) rfl rfl (by first | exact pp1.alloc _ | exact pp1) _ ⟨?_, by first | exact ((H4.out.1.trans pp2 (fun x hx hl => by simp at hx; omega)).then_alloc _) | exact H4.out.1.trans pp2 (fun x hx hl => by simp at hx; omega)⟩
        refine congrArg Ending.returned (congrArg Value.tuple ?_)
        have h1 := HV1.out.1.symm.trans HH.out.1
        have h2 := HV2.out.1.symm.trans HH.out.2.1
        have h1' : mpErr 0 a = 0 := by omega
        have h2' : mpErr 1 b = 0 := by omega
        obtain ⟨v1, v2⟩ := HV2.out.2 h2'
        have hm : mcB a b = false := by simp [mcB, h1', h2', ← v2, ← HV1.out.2.2 h1']; have := HH.out.2.2; omega
        rw [HV1.out.2.1, mcV, mcIs, hm, h1']; simp only [Bool.false_eq_true, if_false, if_true, Bool.false_or, beq_self_eq_true]
    · have HH := Lib.hid (And.intro h1 h2)
      have e20 : (e2 == 0) = true := by simp [h2]
      have e10 : (e1 != 0) = true := by simp [h1]
      have e11 : (e1 == 0) = false := by simp [h1]
      clear h1 h2
      go_wp2_with fail
      obtain ⟨pp1, pp2⟩ := meta_put H4.out.2.1 (.int .i64 n0) (.int .i64 n1) (.int .i64 n2) (.int .i64 n3)
      refine mrCounts_door _ _ w.heap.size _ _ _ _ (.bool (true)) rfl rfl (by first | exact pp1.alloc _ | exact pp1) _ ⟨?_, by first | exact ((H4.out.1.trans pp2 (fun x hx hl => by simp at hx; omega)).then_alloc _) | exact H4.out.1.trans pp2 (fun x hx hl => by simp at hx; omega)⟩
      refine congrArg Ending.returned (congrArg Value.tuple ?_)
      have h1 := HV1.out.1 ▸ HH.out.1
      have h2 := HV2.out.1.symm.trans HH.out.2
      have h1' : ¬ mpErr 0 a = 0 := by omega
      have h2' : mpErr 1 b = 0 := by omega
      obtain ⟨v1, v2⟩ := HV2.out.2 h2'
      have hm : mcB a b = true := by simp [mcB, h1', h2']
      rw [v1, mcV, mcIs, hm]; simp only [if_true, Bool.true_or]
  · have e20 : (e2 == 0) = false := by simp [h2]
    have e11 : (e1 == 0) = (mpErr 0 a == 0) := by rw [HV1.out.1, Bool.eq_iff_iff]; simp
    have HH := Lib.hid h2
    clear h2
    go_wp2_with fail
    obtain ⟨pp1, pp2⟩ := meta_put H4.out.2.1 (.int .i64 m0) (.int .i64 m1) (.int .i64 m2) (.int .i64 m3)
    refine mrCounts_door _ _ w.heap.size _ _ _ _ (.bool (mpErr 0 a == 0)) rfl rfl (by first | exact pp1.alloc _ | exact pp1) _ ⟨?_, by first | exact ((H4.out.1.trans pp2 (fun x hx hl => by simp at hx; omega)).then_alloc _) | exact H4.out.1.trans pp2 (fun x hx hl => by simp at hx; omega)⟩
    refine congrArg Ending.returned (congrArg Value.tuple ?_)
    have h2 := HV2.out.1 ▸ HH.out
    have h2' : ¬ mpErr 1 b = 0 := by omega
    have hm : mcB a b = false := by simp [mcB, h2']
    rw [HV1.out.2.1, mcV, mcIs, hm]; simp only [Bool.false_eq_true, if_false, Bool.false_or]
end Go.Proofs.Ythepcoifcoinoaa
