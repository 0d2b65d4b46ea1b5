/- Walks over the reference of layer 4: a page's bytes. -/
import Derived.Test.YthepcoifcoinoaaPRa15
import Derived.Test.YthepcoifcoinoaaPRa20

namespace Go.Proofs.Ythepcoifcoinoaa
open Go.RowKit

theorem Row.owned_ne {w : World} {base g : Nat} {v : Value} {l : List UInt8} {cs : Array Value} {t : TypeId} (h : Row w g t cs) (ho : Owned w base v l) (ht : 5 ≠ t) : g ∉ v.ownBlock.toList := fun hm => own_ne_row ho h ht (by simpa using hm)

theorem bytes_two (w : World) : Bytes (w.alloc (.cells #[.int .u8 0, .int .u8 0] 5)) (w.alloc (.cells #[.int .u8 0, .int .u8 0] 5)).heap.size (.slice (some ⟨w.heap.size, 0, none⟩) 2 2) [0, 0] := by
  refine ⟨some ⟨w.heap.size, 0, none⟩, 2, rfl, Nat.le_refl _, (fun h => by cases h), by simp [maxLen], by simp, fun _ => ⟨w.heap.size, 0, rfl, by simp, fun i u hu => ?_⟩⟩
  have h := (Row.new w 5 #[.int .u8 0, .int .u8 0]).cell i
  rw [Nat.zero_add, h]
  rw [← hu]
  match i with
  | 0 => rfl
  | 1 => rfl
  | i + 2 => simp
theorem bytes_one (w : World) : Bytes (w.alloc (.cells #[.int .u8 0] 5)) (w.alloc (.cells #[.int .u8 0] 5)).heap.size (.slice (some ⟨w.heap.size, 0, none⟩) 1 1) [0] := by
  refine ⟨some ⟨w.heap.size, 0, none⟩, 1, rfl, Nat.le_refl _, (fun h => by cases h), by simp [maxLen], by simp, fun _ => ⟨w.heap.size, 0, rfl, by simp, fun i u hu => ?_⟩⟩
  have h := (Row.new w 5 #[.int .u8 0]).cell i
  rw [Nat.zero_add, h]
  rw [← hu]
  match i with
  | 0 => rfl
  | i + 1 => simp

set_option maxRecDepth 100000 in
set_option maxHeartbeats 4000000 in
theorem refRaw_any (w : World) (at_ k t n : Nat) (A : Option Addr) (c : Nat) (body : List UInt8) (hB : Bytes w w.heap.size (.slice A body.length c) body)
    (hok : pageOk k t n body.length = true) (hat : at_ ≤ 4095) :
    Calls Try.prog 21 #[.int .i64 at_, .agg #[.int .i64 k, .int .i64 t, .int .i64 n, .slice A body.length c]] w fun e w' =>
      ∃ v, e = .returned v ∧ Owned w' w.heap.size v (rawPage at_ k t n body) ∧ Keeps w w' [] := by
  obtain ⟨hk, ht, hn, hl⟩ := pageOk_true hok
  have HB := Lib.hid hB
  clear hB hok
  go_enter Try.func21, Try.ntmps21
  go_wp2_with fail
  obtain ⟨W0, hW0⟩ : ∃ W0, w.alloc (.cells #[.int .i64 k, .int .i64 t, .int .i64 n, .slice A body.length c] 26) = W0 := ⟨_, rfl⟩
  have hR0 : Row W0 w.heap.size 26 #[.int .i64 k, .int .i64 t, .int .i64 n, .slice A body.length c] := by rw [← hW0]; exact Row.new _ _ _
  have hK0 : Keeps w W0 [] := by rw [← hW0]; exact Keeps.alloc _ _
  rw [hW0]
  have f0 : W0.cell? ⟨w.heap.size, 0, none⟩ = some (.int .i64 k) := hR0.cell 0
  have f3 : W0.cell? ⟨w.heap.size, 3, none⟩ = some (.slice A body.length c) := hR0.cell 3
  have hlt0 := hR0.lt
  have HR0 := Lib.hid (And.intro (show Row W0.drew w.heap.size _ _ from hR0) (hK0.trans (Keeps.drew _) (by simp)))
  clear hR0 hK0 hW0
  go_region_held3 (fun w' => w'.cell? ⟨w.heap.size, 0, none⟩ = some (.int .i64 k) ∧ w'.cell? ⟨w.heap.size, 3, none⟩ = some (.slice A body.length c)) (first | go_keep | (exact ⟨by assumption, by assumption⟩))
    (first
      | (go_at_call 51; (with_reducible refine (number_at _ (k : Int) 1 k 1 rfl rfl (by omega) (by omega) (by omega)).mono ?_); rintro e w1 ⟨A1, c1, l1, rfl, E1, hl1, ho1, hk1⟩; have hr1 := HR0.out.1.keep hk1 (by simp); have d0 := hr1.cell 0; have d3 := hr1.cell 3; have hs1 : W0.heap.size ≤ w1.heap.size := hk1.size; have HO1 := Lib.hid (And.intro ho1 (And.intro hr1 (HR0.out.2.trans hk1 (by simp)))); clear ho1 hk1 hr1)
      | (go_at_call 51; (with_reducible refine (number_at _ (body.length : Int) 1 body.length 1 rfl rfl (by omega) (by omega) (by omega)).mono ?_); rintro e w2 ⟨A2, c2, l2, rfl, E2, hl2, ho2, hk2⟩; have hr2 := HO1.out.2.1.keep hk2 (by simp); have d0 := hr2.cell 0; have d3 := hr2.cell 3; have hs2 := hk2.size; have HO2 := Lib.hid (And.intro (own_keep HO1.out.1 hk2 (by simp)) (And.intro hr2 (And.intro (HO1.out.2.2.trans hk2 (by simp)) ho2))); clear ho2 hk2 hr2)
      | (refine step_append_bytes _ (by rfl) (.tmp 8) (.tmp 12) (by rfl) w.heap.size _ _ l1 l2 (by rfl) (by rfl) (own_base HO2.out.1 (by simp; omega)) (HO2.out.2.2.2.bytes (by omega)) (by omega) (by omega) ?_; intro A3 c3 w3 l3 E3 hl3 ho3 hk3 hb3; have hr3 := HO2.out.2.1.keep hk3 (HO2.out.2.1.owned_ne HO2.out.1 (by decide)); have d0 := hr3.cell 0; have d3 := hr3.cell 3; have hs3 := hk3.size; have HO3 := Lib.hid (And.intro ho3 (And.intro hr3 (HO2.out.2.2.1.trans hk3 (fun x hx hl => by have := (owned_lt HO2.out.1 x (by simpa using hx)).1; (try simp at this); omega)))); clear ho3 hk3 hr3 hb3))
  have d1 : w3.cell? ⟨w.heap.size, 1, none⟩ = some (.int .i64 t) := HO3.out.2.1.cell 1
  have hss3 := HO3.out.2.2.size
  go_wp2_with fail
  (refine (number_at _ (t : Int) 8 t 8 rfl rfl (by omega) (by omega) (by omega)).mono ?_)
  rintro e w4 ⟨A4, c4, l4, rfl, E4, hl4, ho4, hk4⟩
  have hs4 := hk4.size
  have HO4 := Lib.hid (And.intro (own_keep HO3.out.1 hk4 (by simp)) (And.intro (HO3.out.2.1.keep hk4 (by simp)) (And.intro (HO3.out.2.2.trans hk4 (by simp)) ho4)))
  clear ho4 hk4
  go_wp2_with (at_builtin; refine wpList_append_bytes _ rfl (.tmp 14) (.tmp 17) rfl w.heap.size (.slice A3 l3.length c3) (.slice A4 l4.length c4) l3 l4 rfl rfl HO4.out.1 (HO4.out.2.2.2.bytes (by omega)) (by omega) (by omega) ?_; intro A5 c5 w5 l5 E5 hl5 ho5 hk5 hb5; have hs5 := hk5.size; have HO5 := Lib.hid (And.intro ho5 (And.intro (HO4.out.2.1.keep hk5 (HO4.out.2.1.owned_ne HO4.out.1 (by decide))) (HO4.out.2.2.1.trans hk5 (fun x hx hl => by have := (owned_lt HO4.out.1 x (by simpa using hx)).1; (try simp at this); omega)))); clear ho5 hk5 hb5)
  (refine (number_at _ (at_ : Int) 4 at_ 4 rfl rfl (by omega) (by omega) (by omega)).mono ?_)
  rintro e w6 ⟨A6, c6, l6, rfl, E6, hl6, ho6, hk6⟩
  have hs6 := hk6.size
  have HO6 := Lib.hid (And.intro (own_keep HO5.out.1 hk6 (by simp)) (And.intro (HO5.out.2.1.keep hk6 (by simp)) (And.intro (HO5.out.2.2.trans hk6 (by simp)) ho6)))
  clear ho6 hk6
  go_wp2_with (at_builtin; refine wpList_append_bytes _ rfl (.tmp 18) (.tmp 20) rfl w.heap.size (.slice A5 l5.length c5) (.slice A6 l6.length c6) l5 l6 rfl rfl HO6.out.1 (HO6.out.2.2.2.bytes (by omega)) (by omega) (by omega) ?_; intro A7 c7 w7 l7 E7 hl7 ho7 hk7 hb7; have hs7 := hk7.size; have HO7 := Lib.hid (And.intro ho7 (And.intro (HO6.out.2.1.keep hk7 (HO6.out.2.1.owned_ne HO6.out.1 (by decide))) (HO6.out.2.2.1.trans hk7 (fun x hx hl => by have := (owned_lt HO6.out.1 x (by simpa using hx)).1; (try simp at this); omega)))); clear ho7 hk7 hb7; have d2 : w7.cell? ⟨w.heap.size, 2, none⟩ = some (.int .i64 n) := HO7.out.2.1.cell 2)
  (refine (number_at _ (n : Int) 4 n 4 rfl rfl (by omega) (by omega) (by omega)).mono ?_)
  rintro e w8 ⟨A8, c8, l8, rfl, E8, hl8, ho8, hk8⟩
  have hs8 := hk8.size
  have HO8 := Lib.hid (And.intro (own_keep HO7.out.1 hk8 (by simp)) (And.intro (HO7.out.2.1.keep hk8 (by simp)) (And.intro (HO7.out.2.2.trans hk8 (by simp)) ho8)))
  clear ho8 hk8
  go_wp2_with (first
    | (at_builtin; refine wpList_append_bytes _ rfl (.tmp 22) (.tmp 25) rfl w.heap.size (.slice A7 l7.length c7) (.slice A8 l8.length c8) l7 l8 rfl rfl HO8.out.1 (HO8.out.2.2.2.bytes (by omega)) (by omega) (by omega) ?_; intro A9 c9 w9 l9 E9 hl9 ho9 hk9 hb9; have hs9 := hk9.size; have HO9 := Lib.hid (And.intro ho9 (And.intro (HO8.out.2.1.keep hk9 (HO8.out.2.1.owned_ne HO8.out.1 (by decide))) (HO8.out.2.2.1.trans hk9 (fun x hx hl => by have := (owned_lt HO8.out.1 x (by simpa using hx)).1; (try simp at this); omega)))); clear ho9 hk9 hb9)
    | (at_builtin; refine wpList_append_bytes _ rfl (.tmp 26) (.tmp 27) rfl w.heap.size (.slice A9 l9.length c9) (.slice (some ⟨w9.heap.size, 0, none⟩) 2 2) l9 [0, 0] rfl rfl (own_keep HO9.out.1 (Keeps.alloc _ _) (by simp)) (bytes_two w9) (by simp; omega) (by simp; omega) ?_; intro A10 c10 w10 l10 E10 hl10 ho10 hk10 hb10; have hs10 := hk10.size; have hr10 := (HO9.out.2.1.alloc (.cells #[.int .u8 0, .int .u8 0] 5)).keep hk10 (HO9.out.2.1.owned_ne HO9.out.1 (by decide)); have d10 := hr10.cell 3; have HO10 := Lib.hid (And.intro ho10 (And.intro hr10 ((HO9.out.2.2.trans (Keeps.alloc _ _) (by simp)).trans hk10 (fun x hx hl => by have := (owned_lt HO9.out.1 x (by simpa using hx)).1; omega)))); clear ho10 hk10 hb10 hr10)
    | (at_builtin; refine wpList_append_bytes _ rfl (.tmp 29) (.tmp 31) rfl w.heap.size (.slice A10 l10.length c10) (.slice A body.length c) l10 body rfl rfl HO10.out.1 ((HB.out.below (HO10.out.2.2.below (Nat.le_refl _) (by simp))).mono HO10.out.2.2.size) (by simp at hl10; omega) HO10.out.2.2.size ?_; intro A11 c11 w11 l11 E11 hl11 ho11 hk11 hb11; have hs11 := hk11.size; have HO11 := Lib.hid (And.intro ho11 (HO10.out.2.2.trans hk11 (fun x hx hl => by have := (owned_lt HO10.out.1 x (by simpa using hx)).1; omega))); clear ho11 hk11 hb11))
  have hrl := rawTail_length at_ k t n body hl
  have E : l11 ++ List.replicate (232 - body.length) 0 = rawTail at_ k t n body := by
    rw [E11.out, E10.out, E9.out, E8.out, E7.out, E6.out, E5.out, E4.out, E3.out, E2.out, E1.out]
    simp [rawTail, toBE]
  have h20 : l11.length = 20 + body.length := by
    have := congrArg List.length E
    rw [hrl] at this; simp at this; omega
  have HE := Lib.hid E
  have h20a : l11.length ≤ 20 + body.length := by omega
  have h20b : 20 + body.length ≤ l11.length := by omega
  clear E hrl h20
  go_loopw [5] (fun v wr => ∃ A c l j, v = .slice A l.length c ∧ l = l11 ++ List.replicate j 0 ∧ j ≤ 232 - body.length ∧ Owned wr w.heap.size (.slice A l.length c) l ∧ Keeps w wr []) (fun v _ => match v with | .slice _ m _ => 252 - m | _ => 0)
  case atStart => exact ⟨A11, c11, l11, 0, rfl, by simp, by omega, HO11.out.1, HO11.out.2⟩
  case round =>
    obtain ⟨A12, c12, l12, j, rfl, hl12, hj, ho12, hk12⟩ := hrel
    have hlen : l12.length = l11.length + j := by rw [hl12]; simp
    have hlen1 : l12.length ≤ l11.length + j := by omega
    have hlen2 : l11.length + j ≤ l12.length := by omega
    have HO12 := Lib.hid (And.intro ho12 (And.intro hk12 hl12))
    have hs12 := hk12.size
    clear ho12 hk12 hl12 hlen
    by_cases hlt : l12.length < 252
    · go_wp2_with (at_builtin; refine wpList_append_bytes _ rfl (.tmp 36) (.tmp 37) rfl w.heap.size (.slice A12 l12.length c12) (.slice (some ⟨wr.heap.size, 0, none⟩) 1 1) l12 [0] rfl rfl (own_keep HO12.out.1 (Keeps.alloc _ _) (by simp)) (bytes_one wr) (by simp; omega) (by simp; omega) ?_; intro A13 c13 w13 l13 E13 hl13 ho13 hk13 hb13; have HO13 := Lib.hid (And.intro ho13 ((HO12.out.2.1.trans (Keeps.alloc _ _) (by simp)).trans hk13 (fun x hx hl => by have := (owned_lt HO12.out.1 x (by simpa using hx)).1; omega))); clear ho13 hk13 hb13)
      simp only [List.length_cons, List.length_nil] at hl13
      refine ⟨⟨A13, c13, l13, j + 1, rfl, ?_, by omega, HO13.out.1, HO13.out.2⟩, ?_⟩
      · rw [E13.out, HO12.out.2.2, List.replicate_succ', List.append_assoc]
      · show 252 - l13.length < 252 - l12.length
        omega
    · obtain rfl : j = 232 - body.length := by omega
      have hlE : l12 = rawTail at_ k t n body := HO12.out.2.2.trans HE.out
      have HT := Lib.hid hlE
      have hc12 : l12.length ≤ c12 := by obtain ⟨A', c', hv, h1, _⟩ := own_slice HO12.out.1; injection hv with _ _ e3; omega
      have hcs := crcSum_lt l12
      clear hlE
      go_wp2_with fail
      refine (refSum_any _ A12 c12 l12 hc12 (by omega) (Lies.of_own HO12.out.1)).mono ?_
      rintro e w14 ⟨rfl, rfl⟩
      go_wp2_with fail
      refine (number_at _ (crcSum l12 : Int) 4 (crcSum l12) 4 rfl rfl (by omega) (by omega) (by omega)).mono ?_
      rintro e w15 ⟨A15, c15, l15, rfl, E15, hl15, ho15, hk15⟩
      have hs15 := hk15.size
      have HO15 := Lib.hid (And.intro ho15 (And.intro (own_keep HO12.out.1 hk15 (by simp)) (HO12.out.2.1.trans hk15 (by simp))))
      clear ho15 hk15
      go_wp2_with (at_builtin; refine wpList_append_bytes _ rfl (.tmp 42) (.tmp 43) rfl w.heap.size (.slice A15 l15.length c15) (.slice A12 l12.length c12) l15 l12 rfl rfl (own_base HO15.out.1 hs12) (Owned.bytes HO15.out.2.1 (by omega)) (by omega) (by omega) ?_; intro A16 c16 w16 l16 E16 hl16 ho16 hk16 hb16; have HO16 := Lib.hid (And.intro ho16 (HO15.out.2.2.trans hk16 (fun x hx hl => by have := (owned_lt HO15.out.1 x (by simpa using hx)).1; omega))); clear ho16 hk16 hb16)
      go_ret
      refine ⟨_, rfl, ?_, HO16.out.2⟩
      have h16 := HO16.out.1
      have : l16 = rawPage at_ k t n body := by
        rw [E16.out, E15.out, HT.out]; rfl
      rw [← this]
      exact h16
end Go.Proofs.Ythepcoifcoinoaa
