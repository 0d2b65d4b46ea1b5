/- Package keys (layer 18): the small ones. -/
import Derived.Test.YtckmlmedhchpaaaDoorPa6
import Derived.Test.YtckmlmedhchpaaaDoorPa7

namespace Go.Proofs.YtckmlmedhchpaaaDoor
open Go.RowKit

set_option maxRecDepth 100000 in
set_option maxHeartbeats 400000 in
theorem kMust_yes (w : World) :
    Calls Tryd.prog 24 #[.bool true] w fun e w' => e = .returned (.tuple #[]) ∧ w = w' := by
  go_enter Tryd.func24, Tryd.ntmps24
  go_wp2
  exact ⟨rfl, Value.tuple #[], by kernel_rfl, rfl, rfl⟩

set_option maxRecDepth 100000 in
set_option maxHeartbeats 400000 in
theorem kMust_no (w : World) :
    Calls Tryd.prog 24 #[.bool false] w fun e w' => e = .panicked [{ v := .iface 49 (.agg #[]), recovered := false }] ∧ w = w' := by
  go_enter Tryd.func24, Tryd.ntmps24
  go_wp2
  exact ⟨rfl, rfl, rfl⟩
end Go.Proofs.YtckmlmedhchpaaaDoor
