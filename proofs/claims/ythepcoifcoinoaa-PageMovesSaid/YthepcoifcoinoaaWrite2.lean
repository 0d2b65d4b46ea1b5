/- Walks over package wire (layer 3): a number written; the bytes told. -/
import Derived.Test.YthepcoifcoinoaaWrite1
namespace Go.Proofs.Ythepcoifcoinoaa
open Go.RowKit

theorem owned_lt {w : World} {base : Nat} {v : Value} {l : List UInt8} (h : Owned w base v l) (g : Nat) (hg : v.ownBlock = some g) : base ≤ g ∧ g < w.heap.size := h.lt g hg

set_option maxRecDepth 100000 in
set_option maxHeartbeats 1000000 in
theorem wrNumber_any (w : World) (base p : Nat) (v : Value) (l : List UInt8) (n k : Nat) (h : Wr w base p v l) (hk1 : 1 ≤ k) (hk8 : k ≤ 8) (hn : n < 256 ^ k) (hlen : l.length + k ≤ 65536) (hbase : base ≤ w.heap.size) :
    Calls Try.prog 49 #[.pointer (some ⟨p, 0, none⟩), .int .u64 n, .int .i64 k] w fun e w' =>
      e = .returned (.int .i64 0) ∧ ∃ v', Wr w' base p v' (l ++ toBE k n) ∧ Keeps w w' (p :: v.ownBlock.toList) ∧ (v'.ownBlock = v.ownBlock ∨ ∀ g, v'.ownBlock = some g → w.heap.size ≤ g) := by
  have hw : withinB (k : Int) 1 8 = true := by simp [withinB]; omega
  have hn64 : n < 18446744073709551616 := by
    have h3 : 256 ^ k ≤ 256 ^ 8 := Nat.pow_le_pow_right (by omega) hk8
    have h4 : (256 : Nat) ^ 8 = 18446744073709551616 := by decide
    omega
  have hsh : decide ((0 : Int) < (n : Int) / 2 ^ (8 * k)) = false := by
    have h2 : (256 : Nat) ^ k = 2 ^ (8 * k) := by rw [Nat.pow_mul]
    rw [h2] at hn
    have h1 : n / 2 ^ (8 * k) = 0 := Nat.div_eq_of_lt hn
    have h3 : (n : Int) / 2 ^ (8 * k) = ((n / 2 ^ (8 * k) : Nat) : Int) := by rw [Int.natCast_ediv, Int.natCast_pow]; rfl
    rw [h3, h1]; rfl
  have H := Lib.hid h
  clear h hn
  have hplt := H.out.1.lt
  by_cases h8 : k < 8
  all_goals
    have hd8 := h8
    go_enter Try.func49, Try.ntmps49
    go_wp2_with fail
    go_step3
    go_wp2_with fail
    refine (wrNone_any _ _ _ H.out.1).mono ?_
    rintro e w1 ⟨rfl, rfl⟩
    go_wp2_with fail
    refine (wide_any _ _).mono ?_
    rintro e w1 ⟨rfl, rfl⟩
    rw [hw]
    go_wp2_with fail
    refine (laid_any _ n k hk1 hk8 hn64).mono ?_
    rintro e w1 ⟨u, rfl, ho, hk⟩
    have HO := Lib.hid (And.intro ho hk)
    clear ho hk
    go_wp2_with fail
    have hW1 : Wr w1 base p v l := H.out.keep HO.out.2 (by simp) (by simp)
    have hlt := HO.out.1.lt
    refine (wrPut_any w1 base p v u l (toBE k n) hW1 (HO.out.1.bytes (by rw [toBE_length]; omega)) (by rw [toBE_length]; exact hlen) (Nat.le_trans hbase HO.out.2.size)).mono ?_
    rintro e w2 ⟨rfl, v', hw2, hk2, hb2⟩
    have HF := Lib.hid (And.intro hw2 (And.intro hk2 hb2))
    clear hw2 hk2 hb2 hW1 hlt
    go_wp2
    rw [Exit.noGoto_ret]
    go_ret
    obtain ⟨hw2, hk2, hb2⟩ := HF.out
    refine ⟨rfl, v', hw2, (HO.out.2.weaken (T := p :: v.ownBlock.toList) (by simp)).trans hk2 (fun x hx _ => hx), ?_⟩
    rcases hb2 with hb2 | hb2
    · exact .inl hb2
    · exact .inr fun g hg => Nat.le_trans HO.out.2.size (hb2 g hg)

set_option maxRecDepth 100000 in
set_option maxHeartbeats 1000000 in
theorem wrBytes_any (w : World) (base p : Nat) (v : Value) (l : List UInt8) (h : Wr w base p v l) (hlen : l.length ≤ 140737488351232) :
    Calls Try.prog 50 #[.pointer (some ⟨p, 0, none⟩)] w fun e w' => ∃ v', e = .returned v' ∧ Owned w' w.heap.size v' l ∧ Keeps w w' [] := by
  have h0 := h.1.cell 0
  have hB := h.2.bytes hlen
  obtain ⟨A, c, rfl, hc, hcm, hnil, hL⟩ := h.2.parts
  have H := Lib.hid h
  have HB := Lib.hid hB
  clear h hB hnil hL
  go_enter Try.func50, Try.ntmps50
  go_wp2_with fail
  refine (wrNone_any _ _ _ H.out.1).mono ?_
  rintro e w1 ⟨rfl, rfl⟩
  go_wp2_with fail
  refine (clone_any _ _ _ HB.out).mono ?_
  rintro e w1 ⟨v', rfl, ho, hk⟩
  have HO := Lib.hid (And.intro ho hk)
  clear ho hk
  go_wp2
  go_ret
  exact ⟨v', rfl, HO.out.1, HO.out.2⟩
end Go.Proofs.Ythepcoifcoinoaa
