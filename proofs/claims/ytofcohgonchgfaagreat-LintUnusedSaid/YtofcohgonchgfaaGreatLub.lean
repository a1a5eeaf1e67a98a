/- LintUnused: what is reckoned of it. -/
import Derived.Test.YtofcohgonchgfaaGreatLk
set_option linter.unusedVariables false
set_option maxRecDepth 100000
namespace Go.Proofs.YtofcohgonchgfaaGreat
open Go Go.Sh Go.Va
theorem lu_0t (x : Int) : runs tabt 15 1000 1000 3 [.sym .u8 x, .bool true] (.v 0 (.v 0 .nil)) = (Int.tmod x 16 = 0 ∧ Int.tmod x 16 = 0 ∧ FV.bool true = FV.bool true) := by kernel_rfl
theorem lu_1t (x : Int) : runs tabt 15 1000 1000 3 [.sym .u8 x, .bool true] (.v 1 (.v 1 .nil)) = (Int.tmod x 16 = 1 ∧ Int.tmod x 16 = 1 ∧ FV.bool true = FV.bool true) := by kernel_rfl
theorem lu_2t (x : Int) : runs tabt 15 1000 1000 3 [.sym .u8 x, .bool true] (.v 2 (.v 2 .nil)) = (Int.tmod x 16 = 2 ∧ Int.tmod x 16 = 2 ∧ FV.bool true = FV.bool true) := by kernel_rfl
theorem lu_3t (x : Int) : runs tabt 15 1000 1000 3 [.sym .u8 x, .bool true] (.v 3 (.v 3 .nil)) = (Int.tmod x 16 = 3 ∧ Int.tmod x 16 = 3 ∧ FV.bool true = FV.bool true) := by kernel_rfl
theorem lu_4t (x : Int) : runs tabt 15 1000 1000 3 [.sym .u8 x, .bool true] (.v 4 (.v 4 .nil)) = (Int.tmod x 16 = 4 ∧ Int.tmod x 16 = 4 ∧ FV.bool true = FV.bool true) := by kernel_rfl
end Go.Proofs.YtofcohgonchgfaaGreat
