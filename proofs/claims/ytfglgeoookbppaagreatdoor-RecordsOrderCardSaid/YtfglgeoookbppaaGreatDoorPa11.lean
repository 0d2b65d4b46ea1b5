/- Package keys: whole. -/
import Derived.Test.YtfglgeoookbppaaGreatDoorPa9
import Derived.Test.YtfglgeoookbppaaGreatDoorPa10

namespace Go.Proofs.YtfglgeoookbppaaGreatDoor
open Go.RowKit Ieee

/-- A number's word with that of -0 as that of 0. -/
def wholeW (x : Nat) : Nat := if double.order x 0 = some .eq then 0 else x

set_option maxRecDepth 100000 in
set_option maxHeartbeats 400000 in
theorem kWhole_any (x : Nat) (w : World) :
    Calls Tryz.prog 140 #[.float .f64 x] w fun e w' => e = .returned (.float .f64 (wholeW x)) ∧ w = w' := by
  by_cases h : (FloatKind.f64.format.order x 0 == some Ordering.eq) = true
  · have hw : wholeW x = 0 := if_pos (beq_iff_eq.1 h)
    go_enter Tryz.func140, Tryz.ntmps140
    go_wp2
    go_ret
    exact ⟨by rw [hw]; rfl, rfl⟩
  · have hw : wholeW x = x := if_neg fun h2 => h (beq_iff_eq.2 h2)
    go_enter Tryz.func140, Tryz.ntmps140
    go_wp2
    go_ret
    exact ⟨by rw [hw]; rfl, rfl⟩
end Go.Proofs.YtfglgeoookbppaaGreatDoor
