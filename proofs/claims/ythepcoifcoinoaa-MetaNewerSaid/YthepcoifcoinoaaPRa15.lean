/- Walks over package page (layer 4): a page's bytes. Walks over package page (layer 4): where there are no bytes of a page. -/
import Derived.Test.YthepcoifcoinoaaPRa9
import Derived.Test.YthepcoifcoinoaaPRa13
import Derived.Test.YthepcoifcoinoaaPRa14
import Derived.Deep.RegionHeld3

namespace Go.Proofs.Ythepcoifcoinoaa
open Go.RowKit

/-- The bytes of a page behind its sum. -/
def rawTail (at_ k t n : Nat) (body : List UInt8) : List UInt8 :=
  toBE 1 k ++ toBE 1 body.length ++ toBE 8 t ++ toBE 4 at_ ++ toBE 4 n ++ toBE 2 0 ++ body ++ List.replicate (232 - body.length) 0
def rawPage (at_ k t n : Nat) (body : List UInt8) : List UInt8 := toBE 4 (crcSum (rawTail at_ k t n body)) ++ rawTail at_ k t n body
theorem rawTail_length (at_ k t n : Nat) (body : List UInt8) (h : body.length ≤ 232) : (rawTail at_ k t n body).length = 252 := by
  simp [rawTail, toBE_length]; omega
theorem rawPage_length (at_ k t n : Nat) (body : List UInt8) (h : body.length ≤ 232) : (rawPage at_ k t n body).length = 256 := by
  simp [rawPage, toBE_length, rawTail_length _ _ _ _ _ h]

theorem undInt : Try.prog.underlying 3 = some (.int .i64) := by kernel_rfl

/-- While a page's bytes are written: the writer, and the page's own box, in a world that keeps what lay. -/
def Writing (w wc : World) (bx : Nat) (pv : Array Value) (p : Nat) (l : List UInt8) : Prop :=
  ∃ v, Wr wc w.heap.size p v l ∧ (bx ≠ p ∧ v.ownBlock ≠ some bx) ∧ w.heap.size ≤ p ∧ Row wc bx 26 pv ∧ Keeps w wc []

theorem writing_step (w wc : World) (bx : Nat) (pv : Array Value) (p : Nat) (l : List UInt8) (M J : Int) (m j : Nat) (hM : M = m) (hJ : J = j) (h : Writing w wc bx pv p l) (hj1 : 1 ≤ j) (hj8 : j ≤ 8) (hm : m < 256 ^ j) (hlen : l.length + j ≤ 65536) :
    Calls Try.prog 49 #[.pointer (some ⟨p, 0, none⟩), .int .u64 M, .int .i64 J] wc fun e w' => e = .returned (.int .i64 0) ∧ Writing w w' bx pv p (l ++ toBE j m) := by
  subst hM hJ
  obtain ⟨v, hw, ⟨hne, hv⟩, hp, hr, hk⟩ := h
  refine (wrNumber_any wc w.heap.size p v l m j hw hj1 hj8 hm hlen hk.size).mono ?_
  rintro e w' ⟨rfl, v', hw', hk', hb'⟩
  refine ⟨rfl, v', hw', ⟨hne, ?_⟩, hp, hr.keep hk' ?_, hk.trans hk' ?_⟩
  · rcases hb' with hb' | hb'
    · rw [hb']; exact hv
    · intro e; have := hb' _ e; have := hr.lt; omega
  · intro hm; rcases List.mem_cons.1 hm with h1 | h1
    · exact hne h1
    · exact hv (by simpa using h1)
  · intro x hx hlt; rcases List.mem_cons.1 hx with h1 | h1
    · omega
    · have := (owned_lt hw.2 x (by simpa using h1)).1; omega

set_option maxRecDepth 100000 in
set_option maxHeartbeats 4000000 in
theorem rawYes_any (w : World) (at_ k t n : Nat) (A : Option Addr) (c : Nat) (body : List UInt8) (hB : Bytes w w.heap.size (.slice A body.length c) body)
    (hok : pageOk k t n body.length = true) (hat : at_ ≤ 4095) :
    Calls Try.prog 18 #[.int .i64 at_, .agg #[.int .i64 k, .int .i64 t, .int .i64 n, .slice A body.length c]] w fun e w' =>
      ∃ v, e = .returned (.tuple #[v, .int .i64 0]) ∧ Owned w' w.heap.size v (rawPage at_ k t n body) ∧ Keeps w w' [] := by
  obtain ⟨hk, ht, hn, hl⟩ := pageOk_true hok
  have hH := Lib.hid (And.intro hB hok)
  obtain ⟨i0, hi, hz0, hz1, hz2⟩ := info_parts infoByte
  have hwat : withinB (at_ : Int) 0 4095 = true := by simp [withinB]; omega
  have HW := Lib.hid hwat
  clear hB hok hwat
  go_enter Try.func18, Try.ntmps18
  go_wp2_with fail
  refine (checkYes_any _ _ _ _ _ _ hH.out.2 _).mono ?_
  rintro e w1 ⟨rfl, hk1⟩
  have r1 := (Row.new w 26 #[.int .i64 k, .int .i64 t, .int .i64 n, .slice A body.length c]).keep hk1 (by simp)
  have kk1 := (Keeps.alloc w (.cells #[.int .i64 k, .int .i64 t, .int .i64 n, .slice A body.length c] 26)).trans hk1 (by simp)
  have K1 := Lib.hid (And.intro r1 kk1)
  clear r1 kk1 hk1
  go_wp2_with fail
  refine (within_any _ _ _ _).mono ?_
  rintro e w2 ⟨rfl, rfl⟩
  rw [HW.out]
  go_wp2_with fail
  refine (newWriter_any _).mono ?_
  rintro e w2 ⟨rfl, hw2, hk2⟩
  have hs1 := K1.out.2.size
  have hlt1 := K1.out.1.lt
  have S0 : Writing w w2 w.heap.size #[.int .i64 k, .int .i64 t, .int .i64 n, .slice A body.length c] w1.heap.size [] :=
    ⟨_, ⟨hw2.1, own_base hw2.2 hs1⟩, ⟨by omega, by simp [Value.ownBlock]⟩, hs1, K1.out.1.keep hk2 (by simp), K1.out.2.trans hk2 (by simp)⟩
  clear hw2 hk2
  have c0 := S0.choose_spec.2.2.2.1.cell 0
  have K := Lib.hid S0
  clear S0
  go_wp2_with fail
  refine (writing_step _ _ _ _ _ _ _ _ k 1 rfl rfl K.out (by omega) (by omega) (by omega) (by simp)).mono ?_
  clear c0 K
  rintro e w3 ⟨rfl, S0⟩
  have c0 := S0.choose_spec.2.2.2.1.cell 3
  have K := Lib.hid S0
  clear S0
  go_wp2_with fail
  refine (writing_step _ _ _ _ _ _ _ _ body.length 1 rfl rfl K.out (by omega) (by omega) (by omega) (by simp [toBE_length])).mono ?_
  clear c0 K
  rintro e w4 ⟨rfl, S0⟩
  have c0 := S0.choose_spec.2.2.2.1.cell 1
  have K := Lib.hid S0
  clear S0
  go_wp2_with fail
  refine (writing_step _ _ _ _ _ _ _ _ t 8 rfl rfl K.out (by omega) (by omega) (by omega) (by simp [toBE_length])).mono ?_
  clear c0 K
  rintro e w5 ⟨rfl, S0⟩
  have K := Lib.hid S0
  clear S0
  go_wp2_with fail
  refine (writing_step _ _ _ _ _ _ _ _ at_ 4 rfl rfl K.out (by omega) (by omega) (by omega) (by simp [toBE_length])).mono ?_
  clear K
  rintro e w6 ⟨rfl, S0⟩
  have c0 := S0.choose_spec.2.2.2.1.cell 2
  have K := Lib.hid S0
  clear S0
  go_wp2_with fail
  refine (writing_step _ _ _ _ _ _ _ _ n 4 rfl rfl K.out (by omega) (by omega) (by omega) (by simp [toBE_length])).mono ?_
  clear c0 K
  rintro e w7 ⟨rfl, S0⟩
  have K := Lib.hid S0
  clear S0
  go_wp2_with fail
  refine (writing_step _ _ _ _ _ _ _ _ 0 2 rfl rfl K.out (by omega) (by omega) (by omega) (by simp [toBE_length])).mono ?_
  clear K
  rintro e w8 ⟨rfl, S0⟩
  have c0 := S0.choose_spec.2.2.2.1.cell 3
  have c3 : w8.cell? ⟨w.heap.size, 3, none⟩ = some (.slice A body.length c) := c0
  clear c0
  obtain ⟨v8, hw8, hne8, hp8, hr8, hkp8⟩ := S0
  have HL8 := Lib.hid (fun (w9 : World) (h9 : Keeps w8.drew w9 []) => (hH.out.1.below ((hkp8.trans (Keeps.drew _) (by simp)).trans h9 (by simp) |>.below (Nat.le_refl _) (by simp))).lies)
  have hs8 := hkp8.size
  have hs8' := hw8.1.lt
  have hdlen : ([] ++ toBE 1 k ++ toBE 1 body.length ++ toBE 8 t ++ toBE 4 at_ ++ toBE 4 n ++ toBE 2 0).length = 20 := by simp [toBE_length]
  have HD := Lib.hid (show [] ++ toBE 1 k ++ toBE 1 body.length ++ toBE 8 t ++ toBE 4 at_ ++ toBE 4 n ++ toBE 2 0 = toBE 1 k ++ toBE 1 body.length ++ toBE 8 t ++ toBE 4 at_ ++ toBE 4 n ++ toBE 2 0 by simp)
  generalize [] ++ toBE 1 k ++ toBE 1 body.length ++ toBE 8 t ++ toBE 4 at_ ++ toBE 4 n ++ toBE 2 0 = hd at *
  have hd1 : hd.length ≤ 20 := by omega
  have hd2 : 20 ≤ hd.length := by omega
  clear hdlen
  have HW8 := Lib.hid (show Wr w8.drew w.heap.size w1.heap.size v8 _ from hw8)
  have HR8 := Lib.hid (And.intro (show Row w8.drew w.heap.size _ _ from hr8) (hkp8.trans (Keeps.drew _) (by simp)))
  clear hw8 hne8 hp8 hr8 hkp8
  go_wp2_with fail
  go_region_held3 (fun w' => w'.cell? ⟨w.heap.size, 3, none⟩ = some (.slice A body.length c)) (first | go_keep | assumption)
    (first
      | (go_at_call 50; refine (wrBytes_any w8.drew _ _ _ _ HW8.out (by omega)).mono ?_; rintro e w9 ⟨vb, rfl, hob, hkb⟩; obtain ⟨Ab, cb, rfl, hcb1, hcb2⟩ := own_slice hob; have hr9 := HR8.out.1.keep hkb (by simp); have c9 := hr9.cell 3; have HO9 := Lib.hid (And.intro hob (And.intro hkb hr9)); clear hob hkb hr9)
      | (refine step_append_lies' _ (by rfl) (.tmp 49) (.tmp 51) 22 (by rfl) w8.drew.heap.size 5 i0 (.int .u8 0) 1 undBytes hi hz0 hz1 hz2 rfl _ _ _ (by rfl) HO9.out.1 w.heap.size A body.length c (body.map byteV) (by rfl) (by simp) (HL8.out _ HO9.out.2.1) (byteV_one body) (by simp [maxLen]; omega) (by omega) HO9.out.2.1.size ?_; intro v10 w10 hown10 hg10 hat10; have hr10 := HO9.out.2.2.keep (Keeps.of_grown hg10) (fun hm => by have := (owned_lt HO9.out.1 _ (by simpa using hm)).1; simp at this; omega); have c10 := hr10.cell 3; have HO10 := Lib.hid (And.intro hown10 (And.intro hg10 (And.intro hat10 hr10))); clear hown10 hg10 hat10 hr10))
  have hbase8 := HO9.out.2.1.size
  obtain ⟨g10, cap10, hv10, hgb10, hgl10⟩ := HO10.out.1.form (by omega)
  subst hv10
  have K10 : Keeps w w10 [] := (HR8.out.2.trans HO9.out.2.1 (by simp)).trans (Keeps.of_grown HO10.out.2.1) (fun x hx hl => by have := (owned_lt HO9.out.1 x (by simpa using hx)).1; simp at this; omega)
  have HK10 := Lib.hid (And.intro (own_base HO10.out.1 (base' := w.heap.size) (by simp; omega)) K10)
  have hs10 := K10.size
  clear K10 c9 c10 HO9 HO10 HL8
  go_wp2_with (at_builtin; refine wpList_append_zeros _ rfl (.tmp 53) (.tmp 56) 22 3 rfl w.heap.size 5 i0 (.int .u8 0) 1 .i64 .i64 undBytes undInt hi hz0 hz1 hz2 rfl rfl g10 (hd.length + body.length) cap10 _ rfl HK10.out.1 _ (232 - body.length) rfl (by omega) (by simp [maxLen]; omega) (by omega) hs10 ?_; intro v11 w11 hown11 hg11 hat11; obtain ⟨g11, cap11, rfl, hgb11, hgl11⟩ := hown11.form (by omega); have HO11 := Lib.hid (And.intro hown11 hg11); clear hown11 hg11 hat11)
  have hN : hd.length + body.length + (232 - body.length) = (rawTail at_ k t n body).length := by rw [rawTail_length _ _ _ _ _ hl]; omega
  have hT : hd.map byteV ++ body.map byteV ++ List.replicate (232 - body.length) (Value.int .u8 0) = (rawTail at_ k t n body).map byteV := by
    rw [HD.out]; simp [rawTail, byteV]
  have hg10lt : w.heap.size ≤ g10 := by have := (HK10.out.1.lt g10 rfl).1; exact this
  have K11 : Keeps w w11 [] := HK10.out.2.trans (Keeps.of_grown HO11.out.2) (fun x hx hlt => by simp at hx; omega)
  have ho11 := HO11.out.1
  rw [hN, hT] at ho11
  rw [hN]
  have htl1 := rawTail_length at_ k t n body hl
  have HP := Lib.hid (show rawPage at_ k t n body = toBE 4 (crcSum (rawTail at_ k t n body)) ++ rawTail at_ k t n body from rfl)
  clear hN hT HO11 HK10 HD
  generalize rawTail at_ k t n body = tl at *
  have ht1 : tl.length ≤ 252 := by omega
  have ht2 : 252 ≤ tl.length := by omega
  have hcs := crcSum_lt tl
  have hs11 := K11.size
  have HO11 := Lib.hid (And.intro ho11 K11)
  clear ho11 K11 htl1
  refine (newWriter_any _).mono ?_
  rintro e w12 ⟨rfl, hw12, hk12⟩
  have hs12 := hk12.size
  have HO12 := Lib.hid (And.intro (own_keep HO11.out.1 hk12 (by simp)) (And.intro (HO11.out.2.trans hk12 (by simp)) (And.intro hw12 hk12)))
  have hp12 := hw12.1.lt
  clear hw12 hk12
  go_wp2_with fail
  have ka := Keeps.alloc w12 (.cells #[.slice (some ⟨g11, 0, none⟩) tl.length cap11] 22)
  have hcap11 : tl.length ≤ cap11 := by obtain ⟨A', c', hv, h1, _⟩ := own_slice HO12.out.1; injection hv with _ _ e3; omega
  refine (crcSum_any _ w12.heap.size (some ⟨g11, 0, none⟩) cap11 tl hcap11 (by omega) (by simp) (by have := (Row.new w12 22 #[.slice (some ⟨g11, 0, none⟩) tl.length cap11]).cell 0; simp [this]) ((Lies.of_own (own_keep HO12.out.1 ka (by simp))))).mono ?_
  rintro e w13 ⟨rfl, hk13⟩
  have hk13' := ka.trans hk13 (by simp)
  clear ka
  have HO13 := Lib.hid (And.intro (own_keep HO12.out.1 hk13' (by simp)) (And.intro (HO12.out.2.1.trans hk13' (by simp)) (HO12.out.2.2.1.keep hk13' (by simp) (by simp [Value.ownBlock]))))
  have hs13 := hk13'.size
  clear hk13 hk13'
  go_wp2_with fail
  refine (wrNumber_any w13 w11.heap.size w11.heap.size (.slice none 0 0) [] (crcSum tl) 4 HO13.out.2.2 (by omega) (by omega) (by omega) (by simp) (by omega)).mono ?_
  rintro e w14 ⟨rfl, v14, hw14, hk14, hat14⟩
  have hs14 := hk14.size
  have HO14 := Lib.hid (And.intro (own_keep HO13.out.1 hk14 (fun g hg hm => by simp [Value.ownBlock] at hg hm; omega)) (And.intro (HO13.out.2.1.trans hk14 (fun x hx hlt => by simp [Value.ownBlock] at hx; omega)) hw14))
  clear hw14 hk14 hat14
  go_wp2_with fail
  refine (wrBytes_any w14 _ _ _ _ HO14.out.2.2 (by simp [toBE_length])).mono ?_
  rintro e w15 ⟨v15, rfl, ho15, hk15⟩
  have HO15 := Lib.hid (And.intro (own_keep HO14.out.1 hk15 (by simp)) (And.intro (HO14.out.2.1.trans hk15 (by simp)) (own_base ho15 (base' := w.heap.size) (by omega))))
  have hs15 := hk15.size
  have hb15 := fun g hg => (owned_lt ho15 g hg).1
  have HB15 := Lib.hid hb15
  clear ho15 hk15 hb15
  have hl4 : ([] ++ toBE 4 (crcSum tl)).length = 4 := by simp [toBE_length]
  obtain ⟨g15, cap15, hv15, _, _⟩ := HO15.out.2.2.form (by omega)
  subst hv15
  go_wp2_with (at_builtin; refine wpList_append_lies' _ rfl (.tmp 66) (.tmp 67) 22 rfl w.heap.size 5 i0 (.int .u8 0) 1 undBytes hi hz0 hz1 hz2 rfl (.slice (some ⟨g15, 0, none⟩) ([] ++ toBE 4 (crcSum tl)).length cap15) _ _ rfl HO15.out.2.2 w15.heap.size (some ⟨g11, 0, none⟩) tl.length cap11 (tl.map byteV) rfl (by simp) (Lies.of_own HO15.out.1) (byteV_one tl) (by simp [toBE_length, maxLen]; omega) (by omega) (by omega) ?_; intro v16 w16 hown16 hg16 hat16; have HO16 := Lib.hid (And.intro hown16 hg16); clear hown16 hg16 hat16)
  go_ret2
  refine ⟨v16, rfl, ?_, HO15.out.2.1.trans (Keeps.of_grown HO16.out.2) (fun x hx hlt => by have := HB15.out x (by simpa using hx); omega)⟩
  have h16 := HO16.out.1
  rw [HP.out]
  unfold Owned
  rw [List.map_append, List.length_append]
  simpa using h16
end Go.Proofs.Ythepcoifcoinoaa

namespace Go.Proofs.Ythepcoifcoinoaa
open Go.RowKit

set_option maxRecDepth 100000 in
set_option maxHeartbeats 2000000 in
theorem rawNo_any (w : World) (at_ k t n : Int) (A : Option Addr) (len c : Nat) (hlen : len ≤ 140737488351232) (h : (pageOk k t n len && withinB at_ 0 4095) = false) :
    Calls Try.prog 18 #[.int .i64 at_, .agg #[.int .i64 k, .int .i64 t, .int .i64 n, .slice A len c]] w fun e w' =>
      e = .returned (.tuple #[.slice none 0 0, .int .i64 2]) ∧ Keeps w w' [] := by
  cases hok : pageOk k t n len
  · have H := Lib.hid hok
    clear hok h
    go_enter Try.func18, Try.ntmps18
    go_wp2_with fail
    refine (checkNo_any _ _ _ _ _ _ hlen H.out _).mono ?_
    rintro e w1 ⟨rfl, hk1⟩
    have K := Lib.hid ((Keeps.alloc w (.cells #[.int .i64 k, .int .i64 t, .int .i64 n, .slice A len c] 26)).trans hk1 (by simp))
    clear hk1
    go_wp2
    go_ret2
    exact ⟨rfl, K.out⟩
  · rw [hok, Bool.true_and] at h
    have H := Lib.hid hok
    have HW := Lib.hid h
    clear hok h
    go_enter Try.func18, Try.ntmps18
    go_wp2_with fail
    refine (checkYes_any _ _ _ _ _ _ H.out _).mono ?_
    rintro e w1 ⟨rfl, hk1⟩
    have K := Lib.hid ((Keeps.alloc w (.cells #[.int .i64 k, .int .i64 t, .int .i64 n, .slice A len c] 26)).trans hk1 (by simp))
    clear hk1
    go_wp2_with fail
    refine (within_any _ _ _ _).mono ?_
    rintro e w2 ⟨rfl, rfl⟩
    rw [HW.out]
    go_wp2
    go_ret2
    exact ⟨rfl, K.out⟩
end Go.Proofs.Ythepcoifcoinoaa
