/- Walks over package page (layer 4): Parse. -/
import Derived.Test.YthepcoifcoinoaaLook6
namespace Go.Proofs.Ythepcoifcoinoaa
open Go.RowKit

def noParse (why : Int) : Value := .tuple #[.agg #[.int .i64 0, .int .i64 0, .int .i64 0, .slice none 0 0], .int .i64 why]
/-- What Parse answers: the error's number, or 0 and the page. -/
def parseErr (n : Int) (l : List UInt8) : Nat :=
  if withinB n 0 4095 = false then 2 else if lookErr l ≠ 0 then lookErr l else if ((pgNum l : Nat) : Int) = n then 0 else 141

def ParseDone (w : World) (n : Int) (l : List UInt8) (e : Ending) (w' : World) : Prop :=
  Keeps w w' [] ∧
  ((parseErr n l = 0 ∧ lookOk l = true ∧ l.length = 256 ∧ ∃ A c, e = .returned (.tuple #[.agg #[.int .i64 (pgKind l : Nat), .int .i64 (pgTxid l), .int .i64 (pgNext l : Nat), .slice A (pgBody l).length c], .int .i64 0]) ∧ Owned w' w.heap.size (.slice A (pgBody l).length c) (pgBody l)) ∨
   (parseErr n l ≠ 0 ∧ e = .returned (noParse (parseErr n l))))

theorem parse_door (W : World) (t : Array Value) (b : Nat) (k tx nx err : Int) (bv : Value) (h4 : t.getD 4 undef = .pointer (some ⟨b, 0, none⟩)) (h5 : t.getD 5 undef = .int .i64 err)
    (r3 : Row W b 26 #[.int .i64 k, .int .i64 tx, .int .i64 nx, bv]) (R : Ending → World → Prop)
    (hR : R (.returned (.tuple #[.agg #[.int .i64 k, .int .i64 tx, .int .i64 nx, bv], .int .i64 err])) W) :
    bodyPost Try.prog Try.f17 R Exit.ret { tmps := t, defers := [] } W := by
  have c30 := r3.cell 0
  have c31 := r3.cell 1
  have c32 := r3.cell 2
  have c33 := r3.cell 3
  rw [Array.getD_eq_getD_getElem?] at h4 h5
  simp at c30 c31 c32 c33
  refine bodyPost_ret (v := .tuple #[.agg #[.int .i64 k, .int .i64 tx, .int .i64 nx, bv], .int .i64 err]) ?_ rfl hR
  simp [results, Try.results17, go_sem, h4, h5, c30, c31, c32, c33]

theorem page_put {W : World} {b : Nat} {p0 p1 p2 p3 : Value} (h : Row W b 26 #[p0, p1, p2, p3]) (q0 q1 q2 q3 : Value) :
    Row ((((W.setCell ⟨b, 0, none⟩ q0).setCell ⟨b, 1, none⟩ q1).setCell ⟨b, 2, none⟩ q2).setCell ⟨b, 3, none⟩ q3) b 26 #[q0, q1, q2, q3] ∧
    Keeps W ((((W.setCell ⟨b, 0, none⟩ q0).setCell ⟨b, 1, none⟩ q1).setCell ⟨b, 2, none⟩ q2).setCell ⟨b, 3, none⟩ q3) [b] :=
  ⟨(((h.store 0 q0).store 1 q1).store 2 q2).store 3 q3, (((Keeps.setCell _ _ _).trans (Keeps.setCell _ _ _) (by simp)).trans (Keeps.setCell _ _ _) (by simp)).trans (Keeps.setCell _ _ _) (by simp)⟩

set_option maxRecDepth 100000 in
set_option maxHeartbeats 2000000 in
theorem parse_any (w : World) (n : Int) (A : Option Addr) (c : Nat) (l : List UInt8) (hB : Bytes w w.heap.size (.slice A l.length c) l) (hlen : l.length ≤ 140737488351232) :
    Calls Try.prog 17 #[.int .i64 n, .slice A l.length c] w (ParseDone w n l) := by
  have HB := Lib.hid hB
  clear hB
  by_cases h1 : withinB n 0 4095 = true
  · go_enter Try.func17, Try.ntmps17
    go_wp2_with fail
    refine (within_any _ _ _ _).mono ?_
    rintro e w1 ⟨rfl, rfl⟩
    rw [h1]
    go_wp2_with fail
    obtain ⟨W, hW⟩ : ∃ W, w.alloc (.cells #[.int .i64 0, .int .i64 0, .int .i64 0, .slice none 0 0] 26) = W := ⟨_, rfl⟩
    have hk0 : Keeps w W [] := by rw [← hW]; exact Keeps.alloc _ _
    have rz : Row W w.heap.size 26 #[.int .i64 0, .int .i64 0, .int .i64 0, .slice none 0 0] := by rw [← hW]; exact Row.new _ _ _
    rw [hW]
    clear hW
    refine (look_any W A c l ((HB.out.below (hk0.below (Nat.le_refl _) (by simp))).mono hk0.size) hlen).mono ?_
    rintro e w1 ⟨hk, ⟨h2, h3, h4, A1, cc1, rfl, ho⟩ | ⟨h2, rfl⟩⟩
    all_goals
      have rz1 := rz.keep hk (by simp)
      have RZ := Lib.hid rz1
      have g0 := rz1.frozen 0
      have g1 := rz1.frozen 1
      have g2 := rz1.frozen 2
      have g3 := rz1.frozen 3
      have c0 := rz1.cell 0
      have c1 := rz1.cell 1
      have c2 := rz1.cell 2
      have c3 := rz1.cell 3
      have hwW : w.heap.size < W.heap.size := rz.lt
      have hne1 : ¬ w.heap.size = w1.heap.size := Nat.ne_of_lt rz1.lt
      have hne2 : ¬ w1.heap.size = w.heap.size := fun h => hne1 h.symm
      have hne3 := rz1.lt
      clear rz1 rz
    · have HX := Lib.hid (And.intro (hk0.trans hk (by simp)) (And.intro h2 (And.intro h3 (And.intro h4 ho))))
      clear hk h2 h3 h4 ho hk0
      by_cases h5 : ((pgNum l : Nat) : Int) = n
      · have h5b : (((pgNum l : Nat) : Int) != n) = false := by simp [h5]
        have HN := Lib.hid h5
        clear h5
        go_wp2_with fail
        have hp : parseErr n l = 0 := by simp [parseErr, h1, HX.out.2.1, HN.out]
        obtain ⟨pp1, pp2⟩ := page_put RZ.out (.int .i64 (pgKind l : Nat)) (.int .i64 (pgTxid l)) (.int .i64 (pgNext l : Nat)) (.slice A1 (pgBody l).length cc1)
        have ho2 := own_keep HX.out.2.2.2.2 pp2 (fun g hg hm => by have := (owned_lt HX.out.2.2.2.2 g hg).1; simp at hm; omega)
        exact parse_door _ _ w.heap.size _ _ _ _ _ rfl rfl (by first | exact pp1.keep (Keeps.alloc _ _) (by simp) | exact pp1) _
          ⟨by first | exact (HX.out.1.trans pp2 (fun x hx hl => by simp at hx; omega)).trans (Keeps.alloc _ _) (by simp) | exact (HX.out.1.trans pp2 (fun x hx hl => by simp at hx; omega)), .inl ⟨hp, HX.out.2.2.1, HX.out.2.2.2.1, _, _, rfl, by first | exact own_base (own_keep ho2 (Keeps.alloc _ _) (by simp)) (by omega) | exact own_base ho2 (by omega)⟩⟩
      · have h5b : (((pgNum l : Nat) : Int) != n) = true := by simp [h5]
        have HN := Lib.hid h5
        clear h5
        go_wp2_with fail
        have hp : parseErr n l = 141 := by simp [parseErr, h1, HX.out.2.1, HN.out]
        obtain ⟨pp1, pp2⟩ := page_put RZ.out (.int .i64 0) (.int .i64 0) (.int .i64 0) (.slice none 0 0)
        exact parse_door _ _ w.heap.size _ _ _ _ _ rfl rfl (by first | exact pp1.keep (Keeps.alloc _ _) (by simp) | exact pp1) _
          ⟨by first | exact (HX.out.1.trans pp2 (fun x hx hl => by simp at hx; omega)).trans (Keeps.alloc _ _) (by simp) | exact (HX.out.1.trans pp2 (fun x hx hl => by simp at hx; omega)), .inr ⟨by omega, by rw [hp]; rfl⟩⟩
    · have h2b : (((lookErr l : Nat) : Int) == 0) = false := by simp; omega
      have h2c : (((lookErr l : Nat) : Int) != 0) = true := by simp; omega
      have HX := Lib.hid (And.intro (hk0.trans hk (by simp)) h2)
      clear hk h2 hk0
      simp only [noLook]
      go_wp2_with fail
      have hp : parseErr n l = lookErr l := by simp [parseErr, h1, HX.out.2]
      obtain ⟨pp1, pp2⟩ := page_put RZ.out (.int .i64 0) (.int .i64 0) (.int .i64 0) (.slice none 0 0)
      exact parse_door _ _ w.heap.size _ _ _ _ _ rfl rfl (by first | exact pp1.keep (Keeps.alloc _ _) (by simp) | exact pp1) _
        ⟨by first | exact (HX.out.1.trans pp2 (fun x hx hl => by simp at hx; omega)).trans (Keeps.alloc _ _) (by simp) | exact (HX.out.1.trans pp2 (fun x hx hl => by simp at hx; omega)), .inr ⟨by have := HX.out.2; omega, by rw [hp]; rfl⟩⟩
  · have h1' : withinB n 0 4095 = false := by simpa using h1
    go_enter Try.func17, Try.ntmps17
    go_wp2_with fail
    refine (within_any _ _ _ _).mono ?_
    rintro e w1 ⟨rfl, rfl⟩
    rw [h1']
    go_wp2_with fail
    have hp : parseErr n l = 2 := by simp [parseErr, h1']
    exact parse_door _ _ w.heap.size _ _ _ _ _ rfl rfl (Row.new _ _ _) _ ⟨Keeps.alloc _ _, .inr ⟨by omega, by rw [hp]; rfl⟩⟩
end Go.Proofs.Ythepcoifcoinoaa
