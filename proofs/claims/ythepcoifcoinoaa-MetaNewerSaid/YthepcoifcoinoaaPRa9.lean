/- Walks over package page (layer 4) and its reference: are two pages the same. -/
import Derived.Test.YthepcoifcoinoaaPRa7
import Derived.Test.YthepcoifcoinoaaPRa8

namespace Go.Proofs.Ythepcoifcoinoaa
open Go.RowKit

def samePg (k1 t1 n1 : Int) (l1 : List UInt8) (k2 t2 n2 : Int) (l2 : List UInt8) : Bool := (k1 == k2) && ((t1 == t2) && ((n1 == n2) && (l1 == l2)))
theorem samePg_iff {k1 t1 n1 : Int} {l1 : List UInt8} {k2 t2 n2 : Int} {l2 : List UInt8} : samePg k1 t1 n1 l1 k2 t2 n2 l2 = true ↔ k1 = k2 ∧ t1 = t2 ∧ n1 = n2 ∧ l1 = l2 := by
  simp [samePg]

set_option maxRecDepth 100000 in
set_option maxHeartbeats 2000000 in
theorem same_any (w : World) (k1 t1 n1 : Int) (A1 : Option Addr) (c1 : Nat) (l1 : List UInt8) (k2 t2 n2 : Int) (A2 : Option Addr) (c2 : Nat) (l2 : List UInt8)
    (h1 : Lies w w.heap.size A1 (l1.map byteV)) (h2 : Lies w w.heap.size A2 (l2.map byteV)) :
    Calls Try.prog 22 #[.agg #[.int .i64 k1, .int .i64 t1, .int .i64 n1, .slice A1 l1.length c1], .agg #[.int .i64 k2, .int .i64 t2, .int .i64 n2, .slice A2 l2.length c2]] w fun e w' =>
      e = .returned (.bool (samePg k1 t1 n1 l1 k2 t2 n2 l2)) ∧ Keeps w w' [] := by
  have H1 := Lib.hid h1
  have H2 := Lib.hid h2
  clear h1 h2
  cases b1 : (k1 == k2) <;> cases b2 : (t1 == t2) <;> cases b3 : (n1 == n2)
  all_goals
    have BB := Lib.hid (And.intro b1 (And.intro b2 b3))
    go_enter Try.func22, Try.ntmps22
    go_wp2_with (go_at_call 52; refine (bytesEqual_any _ w.heap.size _ _ _ _ l1 l2 (H1.out.below (((Below.refl _ _).alloc (Nat.le_refl _) _).alloc (by simp) _)) (H2.out.below (((Below.refl _ _).alloc (Nat.le_refl _) _).alloc (by simp) _))).mono ?_; rintro e w2 ⟨rfl, rfl⟩)
    go_ret
    obtain ⟨d1, d2, d3⟩ := BB.out
    exact ⟨ret_bool (by simp [samePg, d1, d2, d3]), (Keeps.alloc _ _).trans (Keeps.alloc _ _) (by simp)⟩

set_option maxRecDepth 100000 in
set_option maxHeartbeats 2000000 in
theorem refSame_any (w : World) (k1 t1 n1 : Int) (A1 : Option Addr) (c1 : Nat) (l1 : List UInt8) (k2 t2 n2 : Int) (A2 : Option Addr) (c2 : Nat) (l2 : List UInt8)
    (h1 : Lies w w.heap.size A1 (l1.map byteV)) (h2 : Lies w w.heap.size A2 (l2.map byteV)) :
    Calls Try.prog 16 #[.agg #[.int .i64 k1, .int .i64 t1, .int .i64 n1, .slice A1 l1.length c1], .agg #[.int .i64 k2, .int .i64 t2, .int .i64 n2, .slice A2 l2.length c2]] w fun e w' =>
      e = .returned (.bool (samePg k1 t1 n1 l1 k2 t2 n2 l2)) ∧ Keeps w w' [] := by
  have hb := ((Below.refl w.heap.size w).alloc (Nat.le_refl _) (.cells #[.int .i64 k1, .int .i64 t1, .int .i64 n1, .slice A1 l1.length c1] 26)).alloc (by simp) (.cells #[.int .i64 k2, .int .i64 t2, .int .i64 n2, .slice A2 l2.length c2] 26)
  have e1 := conv_str _ _ A1 c1 l1 (h1.below hb)
  have e2 := conv_str _ _ A2 c2 l2 (h2.below hb)
  clear h1 h2 hb
  cases b1 : (k1 == k2) <;> cases b2 : (t1 == t2) <;> cases b3 : (n1 == n2)
  all_goals
    have BB := Lib.hid (And.intro b1 (And.intro b2 b3))
    go_enter Try.func16, Try.ntmps16
    go_wp2
    go_ret
    obtain ⟨d1, d2, d3⟩ := BB.out
    exact ⟨ret_bool (by simp [samePg, d1, d2, d3]), (Keeps.alloc _ _).trans (Keeps.alloc _ _) (by simp)⟩
end Go.Proofs.Ythepcoifcoinoaa
