/- Walks over package page (layer 4): where there are no bytes of a page. -/
import Derived.Test.YthepcoifcoinoaaRaw
namespace Go.Proofs.Ythepcoifcoinoaa
open Go.RowKit

set_option maxRecDepth 100000 in
set_option maxHeartbeats 2000000 in
theorem rawNo_any (w : World) (at_ k t n : Int) (A : Option Addr) (len c : Nat) (hlen : len ≤ 140737488351232) (h : (pageOk k t n len && withinB at_ 0 4095) = false) :
    Calls Try.prog 18 #[.int .i64 at_, .agg #[.int .i64 k, .int .i64 t, .int .i64 n, .slice A len c]] w fun e w' =>
      e = .returned (.tuple #[.slice none 0 0, .int .i64 2]) ∧ Keeps w w' [] := by
  cases hok : pageOk k t n len
  · have H := Lib.hid hok
    clear hok h
    go_enter Try.func18, Try.ntmps18
    go_wp2_with fail
    refine (checkNo_any _ _ _ _ _ _ hlen H.out _).mono ?_
    rintro e w1 ⟨rfl, hk1⟩
    have K := Lib.hid ((Keeps.alloc w (.cells #[.int .i64 k, .int .i64 t, .int .i64 n, .slice A len c] 26)).trans hk1 (by simp))
    clear hk1
    go_wp2
    go_ret2
    exact ⟨rfl, K.out⟩
  · rw [hok, Bool.true_and] at h
    have H := Lib.hid hok
    have HW := Lib.hid h
    clear hok h
    go_enter Try.func18, Try.ntmps18
    go_wp2_with fail
    refine (checkYes_any _ _ _ _ _ _ H.out _).mono ?_
    rintro e w1 ⟨rfl, hk1⟩
    have K := Lib.hid ((Keeps.alloc w (.cells #[.int .i64 k, .int .i64 t, .int .i64 n, .slice A len c] 26)).trans hk1 (by simp))
    clear hk1
    go_wp2_with fail
    refine (within_any _ _ _ _).mono ?_
    rintro e w2 ⟨rfl, rfl⟩
    rw [HW.out]
    go_wp2
    go_ret2
    exact ⟨rfl, K.out⟩
end Go.Proofs.Ythepcoifcoinoaa
