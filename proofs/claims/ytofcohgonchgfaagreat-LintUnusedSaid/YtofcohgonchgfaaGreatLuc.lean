/- LintUnused: what is reckoned of it. -/
import Derived.Test.YtofcohgonchgfaaGreatLk
set_option linter.unusedVariables false
set_option maxRecDepth 100000
namespace Go.Proofs.YtofcohgonchgfaaGreat
open Go Go.Sh Go.Va
theorem lu_5t (x : Int) : runs tabt 15 1000 1000 3 [.sym .u8 x, .bool true] (.v 5 (.v 5 .nil)) = (Int.tmod x 16 = 5 ∧ Int.tmod x 16 = 5 ∧ FV.bool true = FV.bool true) := by kernel_rfl
theorem lu_6t (x : Int) : runs tabt 15 1000 1000 3 [.sym .u8 x, .bool true] (.v 6 (.v 6 .nil)) = (Int.tmod x 16 = 6 ∧ Int.tmod x 16 = 6 ∧ FV.bool true = FV.bool true) := by kernel_rfl
theorem lu_7t (x : Int) : runs tabt 15 1000 1000 3 [.sym .u8 x, .bool true] (.v 7 (.v 7 .nil)) = (Int.tmod x 16 = 7 ∧ Int.tmod x 16 = 7 ∧ FV.bool true = FV.bool true) := by kernel_rfl
theorem lu_8t (x : Int) : runs tabt 15 1000 1000 3 [.sym .u8 x, .bool true] (.v 8 (.v 8 .nil)) = (Int.tmod x 16 = 8 ∧ Int.tmod x 16 = 8 ∧ FV.bool true = FV.bool true) := by kernel_rfl
theorem lu_9t (x : Int) : runs tabt 15 1000 1000 3 [.sym .u8 x, .bool true] (.v 9 (.v 9 .nil)) = (Int.tmod x 16 = 9 ∧ Int.tmod x 16 = 9 ∧ FV.bool true = FV.bool true) := by kernel_rfl
theorem lu_10t (x : Int) : runs tabt 15 1000 1000 3 [.sym .u8 x, .bool true] (.v 10 (.v 10 .nil)) = (Int.tmod x 16 = 10 ∧ Int.tmod x 16 = 10 ∧ FV.bool true = FV.bool true) := by kernel_rfl
end Go.Proofs.YtofcohgonchgfaaGreat
