/- LintUnused: what is reckoned of it. -/
import Derived.Test.YtofcohgonchgfaaGreatLk
set_option linter.unusedVariables false
set_option maxRecDepth 100000
namespace Go.Proofs.YtofcohgonchgfaaGreat
open Go Go.Sh Go.Va
theorem lu_0f (x : Int) : runs tabt 15 1000 1000 3 [.sym .u8 x, .bool false] (.v 0 (.v 0 .nil)) = (Int.tmod x 16 = 0 ∧ Int.tmod x 16 = 0 ∧ FV.bool true = FV.bool true) := by kernel_rfl
theorem lu_1f (x : Int) : runs tabt 15 1000 1000 3 [.sym .u8 x, .bool false] (.v 1 (.v 1 .nil)) = (Int.tmod x 16 = 1 ∧ Int.tmod x 16 = 1 ∧ FV.bool true = FV.bool true) := by kernel_rfl
theorem lu_2f (x : Int) : runs tabt 15 1000 1000 3 [.sym .u8 x, .bool false] (.v 2 (.v 2 .nil)) = (Int.tmod x 16 = 2 ∧ Int.tmod x 16 = 2 ∧ FV.bool true = FV.bool true) := by kernel_rfl
theorem lu_3f (x : Int) : runs tabt 15 1000 1000 3 [.sym .u8 x, .bool false] (.v 3 (.v 3 .nil)) = (Int.tmod x 16 = 3 ∧ Int.tmod x 16 = 3 ∧ FV.bool true = FV.bool true) := by kernel_rfl
theorem lu_4f (x : Int) : runs tabt 15 1000 1000 3 [.sym .u8 x, .bool false] (.v 4 (.v 4 .nil)) = (Int.tmod x 16 = 4 ∧ Int.tmod x 16 = 4 ∧ FV.bool true = FV.bool true) := by kernel_rfl
theorem lu_5f (x : Int) : runs tabt 15 1000 1000 3 [.sym .u8 x, .bool false] (.v 5 (.v 5 .nil)) = (Int.tmod x 16 = 5 ∧ Int.tmod x 16 = 5 ∧ FV.bool true = FV.bool true) := by kernel_rfl
theorem lu_6f (x : Int) : runs tabt 15 1000 1000 3 [.sym .u8 x, .bool false] (.v 6 (.v 6 .nil)) = (Int.tmod x 16 = 6 ∧ Int.tmod x 16 = 6 ∧ FV.bool true = FV.bool true) := by kernel_rfl
theorem lu_7f (x : Int) : runs tabt 15 1000 1000 3 [.sym .u8 x, .bool false] (.v 7 (.v 7 .nil)) = (Int.tmod x 16 = 7 ∧ Int.tmod x 16 = 7 ∧ FV.bool true = FV.bool true) := by kernel_rfl
theorem lu_8f (x : Int) : runs tabt 15 1000 1000 3 [.sym .u8 x, .bool false] (.v 8 (.v 8 .nil)) = (Int.tmod x 16 = 8 ∧ Int.tmod x 16 = 8 ∧ FV.bool true = FV.bool true) := by kernel_rfl
theorem lu_9f (x : Int) : runs tabt 15 1000 1000 3 [.sym .u8 x, .bool false] (.v 9 (.v 9 .nil)) = (Int.tmod x 16 = 9 ∧ Int.tmod x 16 = 9 ∧ FV.bool true = FV.bool true) := by kernel_rfl
theorem lu_10f (x : Int) : runs tabt 15 1000 1000 3 [.sym .u8 x, .bool false] (.v 10 (.v 10 .nil)) = (Int.tmod x 16 = 10 ∧ Int.tmod x 16 = 10 ∧ FV.bool true = FV.bool true) := by kernel_rfl
theorem lu_11f (x : Int) : runs tabt 15 1000 1000 3 [.sym .u8 x, .bool false] (.v 11 (.v 11 .nil)) = (Int.tmod x 16 = 11 ∧ Int.tmod x 16 = 11 ∧ FV.bool true = FV.bool true) := by kernel_rfl
theorem lu_12f (x : Int) : runs tabt 15 1000 1000 3 [.sym .u8 x, .bool false] (.v 12 (.v 12 .nil)) = (Int.tmod x 16 = 12 ∧ Int.tmod x 16 = 12 ∧ FV.bool true = FV.bool true) := by kernel_rfl
theorem lu_13f (x : Int) : runs tabt 15 1000 1000 3 [.sym .u8 x, .bool false] (.v 13 (.v 13 .nil)) = (Int.tmod x 16 = 13 ∧ Int.tmod x 16 = 13 ∧ FV.bool true = FV.bool true) := by kernel_rfl
theorem lu_14f (x : Int) : runs tabt 15 1000 1000 3 [.sym .u8 x, .bool false] (.v 14 (.v 14 .nil)) = (Int.tmod x 16 = 14 ∧ Int.tmod x 16 = 14 ∧ FV.bool true = FV.bool true) := by kernel_rfl
theorem lu_15f (x : Int) : runs tabt 15 1000 1000 3 [.sym .u8 x, .bool false] (.v 15 (.v 15 .nil)) = (Int.tmod x 16 = 15 ∧ Int.tmod x 16 = 15 ∧ FV.bool true = FV.bool true) := by kernel_rfl
end Go.Proofs.YtofcohgonchgfaaGreat
