/- A law's row out of its walk: it returns true and keeps what was there. -/
import Derived.Test.YtanbdkfkkochgaaRows
import Derived.Test.YtanbdkfkkochgaaPa1
import Derived.ProofKit

namespace Go.Proofs.Ytanbdkfkkochgaa
open Go.ChangeShapes Go.WideShapes Go.ChangeAt Go.RowKit

theorem Try.own : ownKnob Try.prog.godebug = none := by kernel_rfl
theorem undBool : Try.prog.underlying 4 = some .bool := by kernel_rfl
end Go.Proofs.Ytanbdkfkkochgaa
