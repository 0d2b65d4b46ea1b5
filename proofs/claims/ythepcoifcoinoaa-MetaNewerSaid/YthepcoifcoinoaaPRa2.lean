/- A law's row out of its walk: it returns true and keeps what was there. -/
import Derived.Test.YthepcoifcoinoaaRows
import Derived.Test.YthepcoifcoinoaaPRa1
import Derived.ProofKit

namespace Go.Proofs.Ythepcoifcoinoaa
open Go.ChangeShapes Go.WideShapes Go.ChangeAt Go.RowKit

theorem Try.own : ownKnob Try.prog.godebug = none := by kernel_rfl
theorem undBool : Try.prog.underlying 4 = some .bool := by kernel_rfl
end Go.Proofs.Ythepcoifcoinoaa
