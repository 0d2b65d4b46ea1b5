/- The statement PageTurned (layer 4): the walk. -/
import Derived.Test.YthepcoifcoinoaaPRa26
import Derived.Test.YthepcoifcoinoaaPa37
import Derived.Test.YthepcoifcoinoaaPa38

namespace Go.Proofs.Ythepcoifcoinoaa
open Go.RowKit

/-- The bits told, one behind the other, turned. -/
def turns (l : List UInt8) (xs : Nat → Int) : Nat → List UInt8
  | 0 => l
  | k + 1 => turnBit (turns l xs k) (xs k)
def three (x0 x1 x2 : Int) (k : Nat) : Int := [x0, x1, x2].getD k 0
theorem three_cell (x0 x1 x2 : Int) (k : Nat) (h : k < 3) : (#[Value.int .i64 x0, .int .i64 x1, .int .i64 x2] : Array Value)[k]? = some (.int .i64 (three x0 x1 x2 k)) := by
  match k, h with
  | 0, _ => rfl
  | 1, _ => rfl
  | 2, _ => rfl
theorem turns_length (l : List UInt8) (xs : Nat → Int) (k : Nat) : (turns l xs k).length = l.length := by
  induction k with
  | zero => rfl
  | succ k ih => rw [turns, turnBit_length, ih]

theorem xor_turn (v : UInt8) (r : Nat) (h : r < 8) : bits BinOp.xor IntKind.u8 ((v.toNat : Nat) : Int) (2 ^ r % 256) = (((v ^^^ UInt8.ofNat (2 ^ r)).toNat : Nat) : Int) := by
  have hp := ofNat_pow r h
  have hlt : 2 ^ r < 256 := by
    have : 2 ^ r < 2 ^ 8 := Nat.pow_lt_pow_right (by omega) h
    exact this
  have e : ((2 : Int) ^ r % 256) = ((2 ^ r : Nat) : Int) := by
    have h1 : ((2 ^ r : Nat) : Int) = (2 : Int) ^ r := Int.natCast_pow 2 r
    rw [← h1]
    omega
  rw [e, u8_xor_nat _ _ v.toNat_lt hlt, UInt8.toNat_xor, hp]
theorem lookErr_turned (a k t n : Int) (body : List UInt8) (hok : pageOk k t n body.length = true) (ha : withinB a 0 4095 = true) (x y z : Int) :
    let L := turnBit (turnBit (turnBit (rawI a k t n body) x) y) z
    (L = rawI a k t n body → lookErr L = 0) ∧ (L ≠ rawI a k t n body → lookErr L = 140) := by
  intro L
  obtain ⟨h1, h2, h3, _⟩ := rawI_look a k t n body hok ha
  refine ⟨fun h => by rw [h]; exact h3, fun h => ?_⟩
  have hl : L.length = 256 := by
    show (turnBit (turnBit (turnBit (rawI a k t n body) x) y) z).length = 256
    rw [turnBit_length, turnBit_length, turnBit_length, h1]
  have hs : ¬ beN (L.take 4) = crcSum (L.drop 4) := fun hs => h (turned _ h1 x y z ((synd_right _).1 h2) ((synd_right _).1 hs))
  unfold lookErr
  rw [if_neg (by omega), if_pos hs]

set_option maxRecDepth 100000 in
set_option maxHeartbeats 4000000 in
theorem pageTurned_yes (w : World) (m k t n : Int) (A : Option Addr) (c : Nat) (l : List UInt8) (x0 x1 x2 : Int) (hC : Came w A c l) (h300 : l.length ≤ 300) (hok : pageOk k t n l.length = true) (hm : withinB m 0 4095 = true) :
    Calls Try.prog 4 #[.int .i64 m, .agg #[.int .i64 k, .int .i64 t, .int .i64 n, .slice A l.length c], .agg #[.int .i64 x0, .int .i64 x1, .int .i64 x2]] w fun e w' => e = .returned (.bool true) ∧ Keeps w w' [] := by
  have d1 : decide ((300 : Int) < (l.length : Int)) = false := by simp; omega
  have HH := Lib.hid (And.intro hC (And.intro hok hm))
  clear hC hok hm
  go_enter Try.func4, Try.ntmps4
  go_wp2_with fail
  refine (raw256 _ m k t n A c l ((HH.out.1.keep ((Keeps.alloc _ _).then_alloc _)).bytes (by omega)) HH.out.2.1 HH.out.2.2).mono ?_
  rintro e w1 ⟨b, o, c1, rfl, hF, hk1⟩
  have rb : Row w1 (w.heap.size + 1) 38 #[.int .i64 x0, .int .i64 x1, .int .i64 x2] := by
    have := (Row.new (w.alloc (.cells #[.int .i64 k, .int .i64 t, .int .i64 n, .slice A l.length c] 26)) 38 #[.int .i64 x0, .int .i64 x1, .int .i64 x2]).keep hk1 (by simp)
    rwa [World.size_alloc] at this
  have hlow : w.heap.size + 2 ≤ b := by have := hF.low; simpa using this
  have hcm := hF.max
  have hcc := hF.cap
  obtain ⟨RL, hRL⟩ : ∃ RL, rawI m k t n l = RL := ⟨_, rfl⟩
  rw [hRL] at hF
  have HR := Lib.hid hRL
  have CV := hF.str
  have H1 := Lib.hid (And.intro hF (And.intro (((Keeps.alloc _ _).then_alloc _).then_ hk1) rb))
  clear hF hk1 rb hRL
  go_wp2_with fail
  clear CV
  go_loopw [10] (fun i wr => ∃ j : Nat, j ≤ 3 ∧ i = .int .i64 j ∧ Full wr _ b o c1 (turns RL (three x0 x1 x2) j) ∧ Keeps w1 wr [b]) (fun i _ => 3 - (intOf i).toNat)
  case atStart => exact ⟨0, by omega, rfl, H1.out.1, Keeps.refl _ _⟩
  case round =>
    obtain ⟨j, hj, rfl, hF, hk⟩ := hrel
    have hrb := H1.out.2.2.keep hk (by simp; omega)
    have HF := Lib.hid (And.intro hF (And.intro hk hrb))
    by_cases hlt : j < 3
    · have hcell := hrb.cell j
      rw [three_cell x0 x1 x2 j hlt] at hcell
      have HT := Lib.hid (show turns RL (three x0 x1 x2) (j + 1) = turnBit (turns RL (three x0 x1 x2) j) (three x0 x1 x2 j) from rfl)
      generalize three x0 x1 x2 j = x at *
      clear hF hk hrb
      by_cases h0 : 0 ≤ x
      · have e0 : decide (0 ≤ x) = true := by simp [h0]
        by_cases h1 : x < 2048
        · have e1 : decide (x < 2048) = true := by simp [h1]
          obtain ⟨q, hq⟩ : ∃ q : Nat, x.toNat / 8 = q := ⟨_, rfl⟩
          obtain ⟨r, hr⟩ : ∃ r : Nat, x.toNat % 8 = r := ⟨_, rfl⟩
          have hq8 : q < 256 := by omega
          have hr8 : r < 8 := by omega
          have g1 : x / 8 = (q : Int) := by omega
          have g2 : x % 8 = (r : Int) := by omega
          have hcx := HF.out.1.cell q hq8
          have HQ := Lib.hid (And.intro hq hr)
          clear hq hr
          have hfz := HF.out.1.frozen (o + q)
          have g3 : x.tdiv 8 = (q : Int) := by rw [Int.tdiv_eq_ediv_of_nonneg h0]; exact g1
          have g4 : x.tmod 8 = (r : Int) := by rw [Int.tmod_eq_emod_of_nonneg h0]; exact g2
          have g7 : (q : Int) < 256 := by omega
          have g8 : (r : Int) < 8 := by omega
          have g5 : IntKind.i64.wrap (q : Int) = (q : Int) := IntWalk.i64_in _ (by omega)
          have g6 : IntKind.i64.wrap (r : Int) = (r : Int) := IntWalk.i64_in _ (by omega)
          go_wp2_with fail
          go_still_tail 14, (by kernel_rfl)
          go_wp2_with fail
          obtain ⟨hq, hr⟩ := HQ.out
          refine ⟨⟨j + 1, by omega, by go_num, ?_, (HF.out.2.1.trans (Keeps.setCell _ _ _) (by simp)).then_drew⟩, by simp [intOf]; omega⟩
          rw [HT.out]
          unfold turnBit
          rw [if_pos ⟨h0, h1⟩, hq, hr, xor_turn _ r hr8]
          exact (HF.out.1.set hq8 _).keep (Keeps.drew _) (by simp)
        · have e1 : decide (x < 2048) = false := by simp; omega
          go_wp2
          refine ⟨⟨j + 1, by omega, by go_num, ?_, HF.out.2.1⟩, by simp [intOf]; omega⟩
          rw [HT.out, turnBit_out _ _ (by omega)]
          exact HF.out.1
      · have e0 : decide (0 ≤ x) = false := by simpa using h0
        go_wp2
        refine ⟨⟨j + 1, by omega, by go_num, ?_, HF.out.2.1⟩, by simp [intOf]; omega⟩
        rw [HT.out, turnBit_out _ _ (by omega)]
        exact HF.out.1
    · obtain rfl : j = 3 := by omega
      clear hF hk hrb
      have HL := Lib.hid (lookErr_turned m k t n l HH.out.2.1 HH.out.2.2 x0 x1 x2)
      have HT := Lib.hid (show turns RL (three x0 x1 x2) 3 = turnBit (turnBit (turnBit RL x0) x1) x2 from rfl)
      by_cases hE : turns RL (three x0 x1 x2) 3 = RL
      · have HE := Lib.hid (show lookErr (turns RL (three x0 x1 x2) 3) = 0 by
          have := HL.out.1
          rw [HR.out, ← HT.out] at this
          exact this hE)
        rw [hE] at HF HE
        clear hE HL
        go_wp2_with fail
        refine (look256 wr (some ⟨b, o, none⟩) c1 RL HF.out.1.len HF.out.1.bytes).mono ?_
        rintro e w2 ⟨hk2, ⟨_, _, _, A2, c2, rfl, _⟩ | ⟨h0, _⟩⟩
        rotate_left
        · exact absurd HE.out h0
        have H2 := Lib.hid (And.intro (HF.out.1.keep hk2 (by simp)) (H1.out.2.1.trans (HF.out.2.1.trans hk2 (by simp)) (fun x hx hl => by simp at hx; omega)))
        have CV := fun (ob : Obj) => (H2.out.1.keep (Keeps.alloc w2 ob) (by simp)).str
        have rr : (RL == RL) = true := by simp
        clear hk2
        go_wp2_with fail
        refine (known4_any _).mono ?_
        rintro e w3 ⟨rfl, hk3⟩
        have H3 := Lib.hid ((H2.out.2.then_alloc _).then_ hk3)
        clear hk3
        go_wp2
        go_ret
        exact ⟨rfl, H3.out⟩
      · have HE := Lib.hid (show lookErr (turns RL (three x0 x1 x2) 3) = 140 by
          have := HL.out.2
          rw [HR.out, ← HT.out] at this
          exact this hE)
        have HNE := Lib.hid hE
        clear hE HL
        generalize turns RL (three x0 x1 x2) 3 = L at *
        go_wp2_with fail
        refine (look256 wr (some ⟨b, o, none⟩) c1 L HF.out.1.len HF.out.1.bytes).mono ?_
        rintro e w2 ⟨hk2, ⟨h0, _⟩ | ⟨_, rfl⟩⟩
        · have := HE.out; omega
        rw [HE.out]
        simp only [noLook]
        have H2 := Lib.hid (And.intro (HF.out.1.keep hk2 (by simp)) (H1.out.2.1.trans (HF.out.2.1.trans hk2 (by simp)) (fun x hx hl => by simp at hx; omega)))
        have CV := fun (ob : Obj) => (H2.out.1.keep (Keeps.alloc w2 ob) (by simp)).str
        have n1 : (L == RL) = false := by simpa using HNE.out
        have n2 : (L != RL) = true := by simpa using HNE.out
        clear hk2
        go_wp2_with fail
        refine (known4_any _).mono ?_
        rintro e w3 ⟨rfl, hk3⟩
        have H3 := Lib.hid ((H2.out.2.then_alloc _).then_ hk3)
        clear hk3
        go_wp2
        go_ret
        exact ⟨rfl, H3.out⟩
end Go.Proofs.Ythepcoifcoinoaa
