/- A law's row out of its walk: it returns true and keeps what was there. -/
import Derived.Test.YtehlabdbbbbopaaRows
import Derived.Test.YtehlabdbbbbopaaPa1
import Derived.ProofKit

namespace Go.Proofs.Ytehlabdbbbbopaa
open Go.ChangeShapes Go.WideShapes Go.ChangeAt Go.RowKit

theorem Try.own : ownKnob Try.prog.godebug = none := by kernel_rfl
theorem undBool : Try.prog.underlying 4 = some .bool := by kernel_rfl
end Go.Proofs.Ytehlabdbbbbopaa
