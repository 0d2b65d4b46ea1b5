/- Package keys (layer 18): the small ones. -/
import Derived.Test.YtfglgeoookbppaaGreatDoorPa7
import Derived.Test.YtfglgeoookbppaaGreatDoorPa8

namespace Go.Proofs.YtfglgeoookbppaaGreatDoor
open Go.RowKit

set_option maxRecDepth 100000 in
set_option maxHeartbeats 400000 in
theorem kMust_yes (w : World) :
    Calls Tryz.prog 85 #[.bool true] w fun e w' => e = .returned (.tuple #[]) ∧ w = w' := by
  go_enter Tryz.func85, Tryz.ntmps85
  go_wp2
  exact ⟨rfl, Value.tuple #[], by kernel_rfl, rfl, rfl⟩

set_option maxRecDepth 100000 in
set_option maxHeartbeats 400000 in
theorem kMust_no (w : World) :
    Calls Tryz.prog 85 #[.bool false] w fun e w' => e = .panicked [{ v := .iface 110 (.agg #[]), recovered := false }] ∧ w = w' := by
  go_enter Tryz.func85, Tryz.ntmps85
  go_wp2
  exact ⟨rfl, rfl, rfl⟩
end Go.Proofs.YtfglgeoookbppaaGreatDoor
