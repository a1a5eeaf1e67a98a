/- LintUnused: what is reckoned of it. -/
import Derived.Test.YtofcohgonchgfaaGreatLk
set_option linter.unusedVariables false
set_option maxRecDepth 100000
namespace Go.Proofs.YtofcohgonchgfaaGreat
open Go Go.Sh Go.Va
theorem lu_11t (x : Int) : runs tabt 15 1000 1000 3 [.sym .u8 x, .bool true] (.v 11 (.v 11 .nil)) = (Int.tmod x 16 = 11 ∧ Int.tmod x 16 = 11 ∧ FV.bool true = FV.bool true) := by kernel_rfl
theorem lu_12t (x : Int) : runs tabt 15 1000 1000 3 [.sym .u8 x, .bool true] (.v 12 (.v 12 .nil)) = (Int.tmod x 16 = 12 ∧ Int.tmod x 16 = 12 ∧ FV.bool true = FV.bool true) := by kernel_rfl
theorem lu_13t (x : Int) : runs tabt 15 1000 1000 3 [.sym .u8 x, .bool true] (.v 13 (.v 13 .nil)) = (Int.tmod x 16 = 13 ∧ Int.tmod x 16 = 13 ∧ FV.bool true = FV.bool true) := by kernel_rfl
theorem lu_14t (x : Int) : runs tabt 15 1000 1000 3 [.sym .u8 x, .bool true] (.v 14 (.v 14 .nil)) = (Int.tmod x 16 = 14 ∧ Int.tmod x 16 = 14 ∧ FV.bool true = FV.bool true) := by kernel_rfl
theorem lu_15t (x : Int) : runs tabt 15 1000 1000 3 [.sym .u8 x, .bool true] (.v 15 (.v 15 .nil)) = (Int.tmod x 16 = 15 ∧ Int.tmod x 16 = 15 ∧ FV.bool true = FV.bool true) := by kernel_rfl
end Go.Proofs.YtofcohgonchgfaaGreat
