/- FixNever: what is reckoned of it. -/
import Derived.Test.YtofcohgonchgfaaGreatFk
import Derived.KernelRfl
set_option linter.unusedVariables false
set_option linter.unusedSectionVars false
set_option maxRecDepth 100000
namespace Go.Proofs.YtofcohgonchgfaaGreat
open Go Go.Sh Go.Va
variable [Vl]
theorem fn_3_0 : runs tabf 12 1000 1000 6 [.sy .u8 (.add (.mul (.c 6) (.v 1)) (.c 3)) 3 255, .int .u8 0] .nil = (FV.bool true = FV.bool true) := by kernel_rfl
theorem fnr_3_0 : Runs tabf 12 1000 1000 6 [.sy .u8 (.add (.mul (.c 6) (.v 1)) (.c 3)) 3 255, .int .u8 0] := ⟨⟨.nil, by rw [fn_3_0]⟩⟩
theorem fn_3_1 : runs tabf 12 1000 1000 6 [.sy .u8 (.add (.mul (.c 6) (.v 1)) (.c 3)) 3 255, .sy .u8 (.v 0) 1 9] .nil = (FV.bool true = FV.bool true) := by kernel_rfl
theorem fnr_3_1 : Runs tabf 12 1000 1000 6 [.sy .u8 (.add (.mul (.c 6) (.v 1)) (.c 3)) 3 255, .sy .u8 (.v 0) 1 9] := ⟨⟨.nil, by rw [fn_3_1]⟩⟩
theorem fn_3_10 : runs tabf 12 1000 1000 6 [.sy .u8 (.add (.mul (.c 6) (.v 1)) (.c 3)) 3 255, .sy .u8 (.v 0) 10 99] .nil = (FV.bool true = FV.bool true) := by kernel_rfl
theorem fnr_3_10 : Runs tabf 12 1000 1000 6 [.sy .u8 (.add (.mul (.c 6) (.v 1)) (.c 3)) 3 255, .sy .u8 (.v 0) 10 99] := ⟨⟨.nil, by rw [fn_3_10]⟩⟩
theorem fn_3_100 : runs tabf 12 1000 1000 6 [.sy .u8 (.add (.mul (.c 6) (.v 1)) (.c 3)) 3 255, .sy .u8 (.v 0) 100 255] .nil = (FV.bool true = FV.bool true) := by kernel_rfl
theorem fnr_3_100 : Runs tabf 12 1000 1000 6 [.sy .u8 (.add (.mul (.c 6) (.v 1)) (.c 3)) 3 255, .sy .u8 (.v 0) 100 255] := ⟨⟨.nil, by rw [fn_3_100]⟩⟩
theorem fn_4_0 : runs tabf 12 1000 1000 6 [.sy .u8 (.add (.mul (.c 6) (.v 1)) (.c 4)) 4 255, .int .u8 0] .nil = (FV.bool true = FV.bool true) := by kernel_rfl
theorem fnr_4_0 : Runs tabf 12 1000 1000 6 [.sy .u8 (.add (.mul (.c 6) (.v 1)) (.c 4)) 4 255, .int .u8 0] := ⟨⟨.nil, by rw [fn_4_0]⟩⟩
theorem fn_4_1 : runs tabf 12 1000 1000 6 [.sy .u8 (.add (.mul (.c 6) (.v 1)) (.c 4)) 4 255, .sy .u8 (.v 0) 1 9] .nil = (FV.bool true = FV.bool true) := by kernel_rfl
theorem fnr_4_1 : Runs tabf 12 1000 1000 6 [.sy .u8 (.add (.mul (.c 6) (.v 1)) (.c 4)) 4 255, .sy .u8 (.v 0) 1 9] := ⟨⟨.nil, by rw [fn_4_1]⟩⟩
theorem fn_4_10 : runs tabf 12 1000 1000 6 [.sy .u8 (.add (.mul (.c 6) (.v 1)) (.c 4)) 4 255, .sy .u8 (.v 0) 10 99] .nil = (FV.bool true = FV.bool true) := by kernel_rfl
theorem fnr_4_10 : Runs tabf 12 1000 1000 6 [.sy .u8 (.add (.mul (.c 6) (.v 1)) (.c 4)) 4 255, .sy .u8 (.v 0) 10 99] := ⟨⟨.nil, by rw [fn_4_10]⟩⟩
theorem fn_4_100 : runs tabf 12 1000 1000 6 [.sy .u8 (.add (.mul (.c 6) (.v 1)) (.c 4)) 4 255, .sy .u8 (.v 0) 100 255] .nil = (FV.bool true = FV.bool true) := by kernel_rfl
theorem fnr_4_100 : Runs tabf 12 1000 1000 6 [.sy .u8 (.add (.mul (.c 6) (.v 1)) (.c 4)) 4 255, .sy .u8 (.v 0) 100 255] := ⟨⟨.nil, by rw [fn_4_100]⟩⟩
theorem fn_5_0 : runs tabf 12 1000 1000 6 [.sy .u8 (.add (.mul (.c 6) (.v 1)) (.c 5)) 5 255, .int .u8 0] .nil = (FV.bool true = FV.bool true) := by kernel_rfl
theorem fnr_5_0 : Runs tabf 12 1000 1000 6 [.sy .u8 (.add (.mul (.c 6) (.v 1)) (.c 5)) 5 255, .int .u8 0] := ⟨⟨.nil, by rw [fn_5_0]⟩⟩
theorem fn_5_1 : runs tabf 12 1000 1000 6 [.sy .u8 (.add (.mul (.c 6) (.v 1)) (.c 5)) 5 255, .sy .u8 (.v 0) 1 9] .nil = (FV.bool true = FV.bool true) := by kernel_rfl
theorem fnr_5_1 : Runs tabf 12 1000 1000 6 [.sy .u8 (.add (.mul (.c 6) (.v 1)) (.c 5)) 5 255, .sy .u8 (.v 0) 1 9] := ⟨⟨.nil, by rw [fn_5_1]⟩⟩
theorem fn_5_10 : runs tabf 12 1000 1000 6 [.sy .u8 (.add (.mul (.c 6) (.v 1)) (.c 5)) 5 255, .sy .u8 (.v 0) 10 99] .nil = (FV.bool true = FV.bool true) := by kernel_rfl
theorem fnr_5_10 : Runs tabf 12 1000 1000 6 [.sy .u8 (.add (.mul (.c 6) (.v 1)) (.c 5)) 5 255, .sy .u8 (.v 0) 10 99] := ⟨⟨.nil, by rw [fn_5_10]⟩⟩
theorem fn_5_100 : runs tabf 12 1000 1000 6 [.sy .u8 (.add (.mul (.c 6) (.v 1)) (.c 5)) 5 255, .sy .u8 (.v 0) 100 255] .nil = (FV.bool true = FV.bool true) := by kernel_rfl
theorem fnr_5_100 : Runs tabf 12 1000 1000 6 [.sy .u8 (.add (.mul (.c 6) (.v 1)) (.c 5)) 5 255, .sy .u8 (.v 0) 100 255] := ⟨⟨.nil, by rw [fn_5_100]⟩⟩
end Go.Proofs.YtofcohgonchgfaaGreat
