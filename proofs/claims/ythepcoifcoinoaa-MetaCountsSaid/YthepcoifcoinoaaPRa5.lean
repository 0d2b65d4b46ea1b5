/- Walks over package wire (layer 3): a reader. -/
import Derived.Test.YthepcoifcoinoaaPRa3
import Derived.Handy
import Derived.StillTailTactics

namespace Go.Proofs.Ythepcoifcoinoaa
open Go.RowKit

/-- A reader at r (in blocks from base on) that has the bytes l left. -/
def Rd (w : World) (base r : Nat) (l : List UInt8) : Prop :=
  ∃ A c, Row w r 110 #[.slice A l.length c, .bool true] ∧ base ≤ r ∧ l.length ≤ c ∧ (A = none → c = 0) ∧ c ≤ maxLen ∧ Lies w w.heap.size A (l.map byteV) ∧ ∀ ad, A = some ad → base ≤ ad.block ∧ ad.block ≠ r

theorem Rd.keep {w w' : World} {base r : Nat} {l : List UInt8} {S : List Nat} (h : Rd w base r l) (hk : Keeps w w' S) (hS : ∀ x, x ∈ S → x < base) : Rd w' base r l := by
  obtain ⟨A, c, h1, h2, h3, h4, h5, h6, h7⟩ := h
  refine ⟨A, c, h1.keep hk (fun hm => by have := hS _ hm; omega), h2, h3, h4, h5, ?_, h7⟩
  exact (h6.keep' hk (Nat.le_refl _) (fun b o e hm => by have := hS _ hm; have := (h7 _ e).1; simp at this; omega)).mono hk.size

set_option maxRecDepth 100000 in
set_option maxHeartbeats 400000 in
theorem rdNone_any (w : World) (r : Nat) (v : Value) (h : Row w r 110 #[v, .bool true]) :
    Calls Try.prog 61 #[.pointer (some ⟨r, 0, none⟩)] w fun e w' => e = .returned (.bool false) ∧ w = w' := by
  have h1 := h.cell 1
  have H := Lib.hid h
  clear h
  go_enter Try.func61, Try.ntmps61
  go_wp2
  go_ret
  exact ⟨rfl, rfl⟩

set_option maxRecDepth 100000 in
set_option maxHeartbeats 400000 in
theorem newReader_any (w : World) (v : Value) (l : List UInt8) (h : Bytes w w.heap.size v l) :
    Calls Try.prog 37 #[v] w fun e w' => ∃ r, e = .returned (.pointer (some ⟨r, 0, none⟩)) ∧ Rd w' w.heap.size r l ∧ Keeps w w' [] := by
  have hlen := h.len
  have H := Lib.hid h
  clear h
  go_enter Try.func37, Try.ntmps37
  go_wp2_with fail
  refine (clone_any _ _ _ H.out).mono ?_
  rintro e w1 ⟨v', rfl, ho, hk⟩
  obtain ⟨A, c, rfl, hc, hcm, hnil, hL⟩ := ho.parts
  have HO := Lib.hid (And.intro ho hk)
  clear ho hk
  have HL := Lib.hid (And.intro hL hnil)
  clear hL hnil
  go_wp2
  go_ret
  have ho := HO.out.1
  refine ⟨w1.heap.size, rfl, ⟨A, c, Row.new _ _ _, HO.out.2.size, hc, HL.out.2, hcm, (HL.out.1.keep (Keeps.alloc _ _) (Nat.le_refl _) (by simp)).mono (by simp), ?_⟩, HO.out.2.trans (Keeps.alloc _ _) (by simp)⟩
  rintro ad rfl
  have := Owned.block ho
  omega

set_option maxRecDepth 100000 in
set_option maxHeartbeats 400000 in
theorem rdTake_any (w : World) (r : Nat) :
    Calls Try.prog 63 #[.pointer (some ⟨r, 0, none⟩)] w fun e w' => e = .returned (.func (.func 73) #[] #[.pointer (some ⟨w.heap.size, 0, none⟩)]) ∧ w' = w.alloc (.cells #[.pointer (some ⟨r, 0, none⟩)] 71) := by
  have hmf : ∀ (fn : Fn) (first cap : Array Value) (w : World), (Instr.makeFunc fn first cap).run Try.prog w = .ok (.func fn first cap) w := fun _ _ _ _ => rfl
  go_enter Try.func63, Try.ntmps63
  go_wp2
  go_ret
  exact ⟨rfl, rfl⟩

set_option maxRecDepth 100000 in
set_option maxHeartbeats 1000000 in
theorem rdTake1_any (w : World) (r bx n len c : Nat) (A : Option Addr) (h : Row w r 110 #[.slice A len c, .bool true]) (hb : w.cell? ⟨bx, 0, none⟩ = some (.pointer (some ⟨r, 0, none⟩))) (hn : n ≤ len) (hc : len ≤ c) (_hcm : c ≤ maxLen) :
    Calls Try.prog 73 #[.int .i64 n, .pointer (some ⟨bx, 0, none⟩)] w fun e w' => e = .returned (.tuple #[.slice A n n, .bool true]) ∧
      w' = (w.setCell ⟨r, 0, none⟩ (.slice (if c = n then A else A.map (·.add n)) (len - n) (c - n))).drew := by
  have h0 := h.cell 0
  have hf := h.frozen 0
  have H := Lib.hid h
  clear h
  have hlt : decide ((len : Int) < (n : Int)) = false := by simp; omega
  go_enter Try.func73, Try.ntmps73
  go_wp2
  go_still_tail 11, (by kernel_rfl)
  go_wp2
  all_goals
    go_ret2
    exact ⟨rfl, rfl⟩
end Go.Proofs.Ythepcoifcoinoaa
