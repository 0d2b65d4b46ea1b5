/- More contracts of layer 4, as the statements' walks want them. Walks over package meta (layer 6) and its reference: what may be a meta; where it lies. Walks over package meta (layer 6): Check. Walks over package meta (layer 6): a meta's body. -/
import Derived.Test.YthepcoifcoinoaaPRa25
import Derived.Test.YthepcoifcoinoaaPRa4

namespace Go.Proofs.Ythepcoifcoinoaa
open Go.RowKit

/-- The rest of a region, some of whose operations have come up (its list told by the operations). -/
theorem wpAny_rest {P : Program} {ops : Array Oper} {Q' : Exit → Act → World → Prop} {a : Act} {w : World} {listed : Array Bool} {fuel : Nat} (C : World → Prop) (k : Nat) (l : List Oper) (hl : ops.toList.drop k = l) (hf : l.length = fuel) (hs : Region.noSelect ops = true) (hB : Region.lexFrom .any ops l.length k listed = true) (hC : C w)
    (h : wpQuiet P ops C (fun a' => ∀ w', C w' → Q' .normal a' w') l a) : wpAny P .any ops Q' fuel listed a w := by
  subst hf
  exact wpAny_mild C k l (fun j => by rw [← hl, List.getElem?_drop]; simp) hs hB hC h

theorem same_yes (W : World) (k t n : Int) (A1 A2 : Option Addr) (c1 c2 : Nat) (l : List UInt8) (h1 : Lies W W.heap.size A1 (l.map byteV)) (h2 : Lies W W.heap.size A2 (l.map byteV)) :
    Calls Try.prog 22 #[.agg #[.int .i64 k, .int .i64 t, .int .i64 n, .slice A1 l.length c1], .agg #[.int .i64 k, .int .i64 t, .int .i64 n, .slice A2 l.length c2]] W fun e w' => e = .returned (.bool true) ∧ Keeps W w' [] :=
  (same_any W k t n A1 c1 l k t n A2 c2 l h1 h2).mono fun e w' ⟨he, hk⟩ => ⟨by rw [he, samePg_iff.2 ⟨rfl, rfl, rfl, rfl⟩], hk⟩
theorem refSame_yes (W : World) (k t n : Int) (A1 A2 : Option Addr) (c1 c2 : Nat) (l : List UInt8) (h1 : Lies W W.heap.size A1 (l.map byteV)) (h2 : Lies W W.heap.size A2 (l.map byteV)) :
    Calls Try.prog 16 #[.agg #[.int .i64 k, .int .i64 t, .int .i64 n, .slice A1 l.length c1], .agg #[.int .i64 k, .int .i64 t, .int .i64 n, .slice A2 l.length c2]] W fun e w' => e = .returned (.bool true) ∧ Keeps W w' [] :=
  (refSame_any W k t n A1 c1 l k t n A2 c2 l h1 h2).mono fun e w' ⟨he, hk⟩ => ⟨by rw [he, samePg_iff.2 ⟨rfl, rfl, rfl, rfl⟩], hk⟩
/-- Look of a page's bytes. -/
theorem lookRaw (w : World) (base b o c : Nat) (a k t n : Int) (body : List UInt8) (hF : Full w base b o c (rawI a k t n body)) (hok : pageOk k t n body.length = true) (ha : withinB a 0 4095 = true) :
    Calls Try.prog 14 #[.slice (some ⟨b, o, none⟩) 256 c] w fun e w' =>
      ∃ A c', e = .returned (.tuple #[.int .i64 a, .agg #[.int .i64 k, .int .i64 t, .int .i64 n, .slice A body.length c'], .int .i64 0]) ∧ Owned w' w.heap.size (.slice A body.length c') body ∧ Keeps w w' [] := by
  refine (look256 w (some ⟨b, o, none⟩) c _ hF.len hF.bytes).mono ?_
  obtain ⟨_, _, h3, h4, h5, h6, h7, h8, h9⟩ := rawI_look a k t n body hok ha
  rintro e w' ⟨hk, ⟨_, _, _, A, c', rfl, ho⟩ | ⟨h0, _⟩⟩
  · rw [h5, h6, h7, h8, h9]
    rw [h9] at ho
    exact ⟨A, c', rfl, ho, hk⟩
  · exact absurd h3 h0
theorem Came.lies {W w' : World} {A : Option Addr} {c : Nat} {l : List UInt8} (h : Came W A c l) (hk : Keeps W w' []) : Lies w' w'.heap.size A (l.map byteV) := (h.2.2.2.below (hk.below (Nat.le_refl _) (by simp))).mono hk.size
theorem Came.keep {W w' : World} {A : Option Addr} {c : Nat} {l : List UInt8} (h : Came W A c l) (hk : Keeps W w' []) : Came w' A c l := ⟨h.1, h.2.1, h.2.2.1, h.lies hk⟩
theorem owned_lies {W w' : World} {base n c : Nat} {A : Option Addr} {l : List UInt8} (h : Owned W base (.slice A n c) l) (hk : Keeps W w' []) : Lies w' w'.heap.size A (l.map byteV) := by
  have h1 : Owned w' base (.slice A n c) l := own_keep h hk (by simp)
  obtain ⟨A', c', hv, _, _, _, hL⟩ := Owned.parts h1
  injection hv with e1 e2 e3
  rw [e1]
  exact hL
end Go.Proofs.Ythepcoifcoinoaa

namespace Go.Proofs.Ythepcoifcoinoaa
open Go.RowKit

set_option maxRecDepth 100000 in
set_option maxHeartbeats 400000 in
theorem mWithin_any (n a b : Int) (w : World) :
    Calls Try.prog 57 #[.int .i64 n, .int .i64 a, .int .i64 b] w fun e w' => e = .returned (.bool (withinB n a b)) ∧ w = w' := by
  by_cases h : a ≤ n <;> by_cases h2 : n ≤ b
  all_goals
    go_enter Try.func57, Try.ntmps57
    go_wp2
    go_ret
    exact ⟨by simp [withinB, h, h2], rfl⟩

/-- Where a meta of this Txid lies. -/
def whereOf (t : Int) : Int := if t < 0 then 0 else t % 2
set_option maxRecDepth 100000 in
set_option maxHeartbeats 400000 in
theorem where_any (t : Int) (w : World) :
    Calls Try.prog 32 #[.int .i64 t] w fun e w' => e = .returned (.int .i64 (whereOf t)) ∧ w = w' := by
  by_cases h : t < 0
  · go_enter Try.func32, Try.ntmps32
    go_wp2
    all_goals
      go_ret
      exact ⟨ret_int (by unfold whereOf; split <;> omega), rfl⟩
  · have h0 : 0 ≤ t := by omega
    go_enter Try.func32, Try.ntmps32
    go_wp2
    all_goals
      go_ret
      exact ⟨ret_int (by unfold whereOf; split <;> omega), rfl⟩

/-- May a meta of these parts be? -/
def metaOk (t r f h : Int) : Bool := (withinB t 0 4611686018427387904 && withinB h 2 4096) && ((r == 0 || withinB r 2 (h - 1)) && (f == 0 || withinB f 2 (h - 1)))
theorem metaOk_true {t r f h : Int} (hk : metaOk t r f h = true) : (0 ≤ t ∧ t ≤ 4611686018427387904) ∧ (2 ≤ h ∧ h ≤ 4096) ∧ (r = 0 ∨ (2 ≤ r ∧ r < h)) ∧ (f = 0 ∨ (2 ≤ f ∧ f < h)) := by
  simp [metaOk, withinB] at hk
  refine ⟨hk.1.1, hk.1.2, ?_, ?_⟩
  · rcases hk.2.1 with h0 | h0
    · exact .inl h0
    · exact .inr ⟨h0.1, by omega⟩
  · rcases hk.2.2 with h0 | h0
    · exact .inl h0
    · exact .inr ⟨h0.1, by omega⟩
set_option maxRecDepth 100000 in
set_option maxHeartbeats 2000000 in
theorem mRight_any (t r f h : Int) (w : World) :
    Calls Try.prog 31 #[.agg #[.int .i64 t, .int .i64 r, .int .i64 f, .int .i64 h]] w fun e w' => e = .returned (.bool (metaOk t r f h)) ∧ Keeps w w' [] := by
  go_enter Try.func31, Try.ntmps31
  go_wp2
  all_goals
    go_ret
    refine ⟨ret_bool ?_, Keeps.alloc _ _⟩
    rw [Bool.eq_iff_iff]
    simp [metaOk, withinB]
    omega
end Go.Proofs.Ythepcoifcoinoaa

namespace Go.Proofs.Ythepcoifcoinoaa
open Go.RowKit

def metaErr (t r f h : Int) : Int := if metaOk t r f h then 0 else 2
/-- May a meta name this page? -/
def pageFine (n h : Int) : Bool := n == 0 || withinB n 2 (h - 1)

set_option maxRecDepth 100000 in
set_option maxHeartbeats 4000000 in
theorem mCheck_any (t r f h : Int) (w : World) :
    Calls Try.prog 30 #[.agg #[.int .i64 t, .int .i64 r, .int .i64 f, .int .i64 h]] w fun e w' => e = .returned (.int .i64 (metaErr t r f h)) ∧ Keeps w w' [] := by
  cases b1 : withinB t 0 4611686018427387904
  · have B1 := Lib.hid b1
    clear b1
    go_enter Try.func30, Try.ntmps30
    go_wp2_with fail
    refine (mWithin_any _ _ _ _).mono ?_
    rintro e w1 ⟨rfl, rfl⟩
    rw [B1.out]
    go_wp2
    go_ret
    exact ⟨ret_int (by unfold metaErr metaOk; rw [B1.out]; rfl), Keeps.alloc _ _⟩
  · cases b2 : withinB h 2 4096
    · have B := Lib.hid (And.intro b1 b2)
      clear b1 b2
      go_enter Try.func30, Try.ntmps30
      go_wp2_with fail
      refine (mWithin_any _ _ _ _).mono ?_
      rintro e w1 ⟨rfl, rfl⟩
      rw [B.out.1]
      go_wp2_with fail
      refine (mWithin_any _ _ _ _).mono ?_
      rintro e w1 ⟨rfl, rfl⟩
      rw [B.out.2]
      go_wp2
      go_ret
      exact ⟨ret_int (by unfold metaErr metaOk; rw [B.out.1, B.out.2]; rfl), Keeps.alloc _ _⟩
    · have B := Lib.hid (And.intro b1 b2)
      have hh : 2 ≤ h ∧ h ≤ 4096 := by simpa [withinB] using b2
      clear b1 b2
      go_enter Try.func30, Try.ntmps30
      go_wp2_with fail
      refine (mWithin_any _ _ _ _).mono ?_
      rintro e w1 ⟨rfl, rfl⟩
      rw [B.out.1]
      go_wp2_with fail
      refine (mWithin_any _ _ _ _).mono ?_
      rintro e w1 ⟨rfl, rfl⟩
      rw [B.out.2]
      go_wp2_with fail
      have i0 : ∀ w, (Instr.index 103 (.agg #[.int .i64 r, .int .i64 f]) (.int .i64 0)).run Try.prog w = .ok (.int .i64 r) w := fun _ => by kernel_rfl
      have i1 : ∀ w, (Instr.index 103 (.agg #[.int .i64 r, .int .i64 f]) (.int .i64 1)).run Try.prog w = .ok (.int .i64 f) w := fun _ => by kernel_rfl
      have s1 : h - 1 ≤ 4095 := by omega
      have s2 : 1 ≤ h - 1 := by omega
      go_loop [20] (fun i => i = .int .i64 0 ∨ (i = .int .i64 1 ∧ pageFine r h = true) ∨ (i = .int .i64 2 ∧ pageFine r h = true ∧ pageFine f h = true)) (fun i => 2 - (intOf i).toNat)
      case atStart => exact .inl rfl
      case round =>
        rcases hrel with rfl | ⟨rfl, hr⟩ | ⟨rfl, hr, hf⟩
        · by_cases h0 : r = 0
          · have e0 : (r != 0) = false := by simp [h0]
            have HP := Lib.hid (show pageFine r h = true by simp [pageFine, h0])
            clear h0
            go_wp2
            refine ⟨.inr (.inl ⟨by go_num, HP.out⟩), by simp [intOf]⟩
          · have e0 : (r != 0) = true := by simp [h0]
            cases hw : withinB r 2 (h - 1)
            · have HP := Lib.hid (show metaErr t r f h = 2 by simp [metaErr, metaOk, hw, h0])
              have HW := Lib.hid hw
              clear h0 hw
              go_wp2_with (go_at_call 57; refine (mWithin_any _ _ _ _).mono ?_; rintro e w1 ⟨rfl, rfl⟩; rw [HW.out])
              go_ret
              exact ⟨ret_int HP.out.symm, Keeps.alloc _ _⟩
            · have HP := Lib.hid (show pageFine r h = true by simp [pageFine, hw])
              have HW := Lib.hid hw
              clear h0 hw
              go_wp2_with (go_at_call 57; refine (mWithin_any _ _ _ _).mono ?_; rintro e w1 ⟨rfl, rfl⟩; rw [HW.out])
              refine ⟨.inr (.inl ⟨by go_num, HP.out⟩), by simp [intOf]⟩
        · have HR := Lib.hid hr
          clear hr
          by_cases h0 : f = 0
          · have e0 : (f != 0) = false := by simp [h0]
            have HP := Lib.hid (show pageFine f h = true by simp [pageFine, h0])
            clear h0
            go_wp2
            refine ⟨.inr (.inr ⟨by go_num, HR.out, HP.out⟩), by simp [intOf]⟩
          · have e0 : (f != 0) = true := by simp [h0]
            cases hw : withinB f 2 (h - 1)
            · have HP := Lib.hid (show metaErr t r f h = 2 by simp [metaErr, metaOk, hw, h0])
              have HW := Lib.hid hw
              clear h0 hw
              go_wp2_with (go_at_call 57; refine (mWithin_any _ _ _ _).mono ?_; rintro e w1 ⟨rfl, rfl⟩; rw [HW.out])
              go_ret
              exact ⟨ret_int HP.out.symm, Keeps.alloc _ _⟩
            · have HP := Lib.hid (show pageFine f h = true by simp [pageFine, hw])
              have HW := Lib.hid hw
              clear h0 hw
              go_wp2_with (go_at_call 57; refine (mWithin_any _ _ _ _).mono ?_; rintro e w1 ⟨rfl, rfl⟩; rw [HW.out])
              refine ⟨.inr (.inr ⟨by go_num, HR.out, HP.out⟩), by simp [intOf]⟩
        · have HP := Lib.hid (show metaErr t r f h = 0 by
            have : metaOk t r f h = true := by
              unfold metaOk
              rw [B.out.1, B.out.2]
              simpa [pageFine] using And.intro hr hf
            simp [metaErr, this])
          clear hr hf
          go_wp2
          go_ret
          exact ⟨ret_int HP.out.symm, Keeps.alloc _ _⟩
end Go.Proofs.Ythepcoifcoinoaa

namespace Go.Proofs.Ythepcoifcoinoaa
open Go.RowKit

def mNum (r f h : Nat) (j : Nat) : Nat := [r, f, h].getD j 0
def mParts (r f h : Nat) : Nat → List UInt8
  | 0 => []
  | j + 1 => mParts r f h j ++ toBE 4 (mNum r f h j)
theorem mParts_length (r f h j : Nat) : (mParts r f h j).length = 4 * j := by
  induction j with
  | zero => rfl
  | succ j ih => rw [mParts, List.length_append, ih, toBE_length]; omega
theorem mNum_cell (r f h j : Nat) (hj : j < 3) : (#[Value.int .i64 (r : Int), .int .i64 (f : Int), .int .i64 (h : Int)] : Array Value)[j]? = some (.int .i64 (mNum r f h j : Nat)) := by
  match j, hj with
  | 0, _ => rfl
  | 1, _ => rfl
  | 2, _ => rfl

set_option maxRecDepth 100000 in
set_option maxHeartbeats 4000000 in
theorem mBody_any (w : World) (g r f h : Nat) (hr : r < 4294967296) (hf : f < 4294967296) (hh : h < 4294967296) (hrow : Row w g 2 #[.int .i64 (r : Nat), .int .i64 (f : Nat), .int .i64 (h : Nat)]) :
    Calls Try.prog 59 #[.slice (some ⟨g, 0, none⟩) 3 3] w fun e w' => ∃ v, e = .returned v ∧ Owned w' w.heap.size v (mParts r f h 3) ∧ Keeps w w' [] := by
  have HR := Lib.hid hrow
  have hb : ∀ j, mNum r f h j < 4294967296 := fun j => by
    match j with
    | 0 => exact hr
    | 1 => exact hf
    | 2 => exact hh
    | j + 3 => simp [mNum]
  have HB := Lib.hid hb
  clear hrow hb hr hf hh
  go_enter Try.func59, Try.ntmps59
  go_wp2_with fail
  refine (newWriter_any _).mono ?_
  rintro e w1 ⟨rfl, hw1, hk1⟩
  have H1 := Lib.hid (And.intro hw1 hk1)
  have hlt := hw1.1.lt
  have hg := HR.out.lt
  clear hw1 hk1
  go_wp2_with fail
  go_loopw [9] (fun i wr => ∃ (j : Nat) (v : Value), j ≤ 3 ∧ i = .int .i64 j ∧ Wr wr w.heap.size w.heap.size v (mParts r f h j) ∧ Keeps w wr []) (fun i _ => 3 - (intOf i).toNat)
  case atStart => exact ⟨0, _, by omega, rfl, H1.out.1, H1.out.2⟩
  case round =>
    obtain ⟨j, v, hj, rfl, hw, hk⟩ := hrel
    have HJ := Lib.hid (And.intro hw hk)
    have hs := hk.size
    by_cases hlt3 : j < 3
    · have hc := (HR.out.keep hk (by simp)).cell j
      rw [mNum_cell r f h j hlt3] at hc
      have hb := HB.out j
      have HN := Lib.hid (show mParts r f h (j + 1) = mParts r f h j ++ toBE 4 (mNum r f h j) from rfl)
      have HLn := Lib.hid (mParts_length r f h j)
      generalize mNum r f h j = x at *
      clear hw hk
      go_wp2_with fail
      refine (wrNumber_any wr w.heap.size w.heap.size v (mParts r f h j) x 4 HJ.out.1 (by omega) (by omega) (by omega) (by rw [HLn.out]; omega) hs).mono ?_
      rintro e w2 ⟨rfl, v', hw2, hk2, _⟩
      have H2 := Lib.hid (And.intro hw2 (HJ.out.2.trans hk2 (fun y hy hl => by
        rcases List.mem_cons.1 hy with h1 | h1
        · omega
        · have := (owned_lt HJ.out.1.2 y (by simpa using h1)).1; omega)))
      clear hw2 hk2
      go_wp2
      refine ⟨⟨j + 1, v', by omega, by go_num, by rw [HN.out]; exact H2.out.1, H2.out.2⟩, by simp [intOf]; omega⟩
    · obtain rfl : j = 3 := by omega
      clear hw hk
      go_wp2_with fail
      refine (wrBytes_any wr w.heap.size w.heap.size v _ HJ.out.1 (by rw [mParts_length]; omega)).mono ?_
      rintro e w2 ⟨v', rfl, ho, hk2⟩
      have H2 := Lib.hid (And.intro (own_base ho hs) (HJ.out.2.then_ hk2))
      clear ho hk2
      go_wp2
      go_ret
      exact ⟨v', rfl, H2.out.1, H2.out.2⟩
end Go.Proofs.Ythepcoifcoinoaa
