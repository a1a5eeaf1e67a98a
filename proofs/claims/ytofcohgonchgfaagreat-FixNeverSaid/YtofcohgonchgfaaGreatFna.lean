/- FixNever: what is reckoned of it. -/
import Derived.Test.YtofcohgonchgfaaGreatFk
import Derived.KernelRfl
set_option linter.unusedVariables false
set_option linter.unusedSectionVars false
set_option maxRecDepth 100000
namespace Go.Proofs.YtofcohgonchgfaaGreat
open Go Go.Sh Go.Va
variable [Vl]
theorem fn_0_0 : runs tabf 12 1000 1000 6 [.sy .u8 (.add (.mul (.c 6) (.v 1)) (.c 0)) 0 255, .int .u8 0] .nil = (FV.bool true = FV.bool true) := by kernel_rfl
theorem fnr_0_0 : Runs tabf 12 1000 1000 6 [.sy .u8 (.add (.mul (.c 6) (.v 1)) (.c 0)) 0 255, .int .u8 0] := ⟨⟨.nil, by rw [fn_0_0]⟩⟩
theorem fn_0_1 : runs tabf 12 1000 1000 6 [.sy .u8 (.add (.mul (.c 6) (.v 1)) (.c 0)) 0 255, .sy .u8 (.v 0) 1 9] .nil = (FV.bool true = FV.bool true) := by kernel_rfl
theorem fnr_0_1 : Runs tabf 12 1000 1000 6 [.sy .u8 (.add (.mul (.c 6) (.v 1)) (.c 0)) 0 255, .sy .u8 (.v 0) 1 9] := ⟨⟨.nil, by rw [fn_0_1]⟩⟩
theorem fn_0_10 : runs tabf 12 1000 1000 6 [.sy .u8 (.add (.mul (.c 6) (.v 1)) (.c 0)) 0 255, .sy .u8 (.v 0) 10 99] .nil = (FV.bool true = FV.bool true) := by kernel_rfl
theorem fnr_0_10 : Runs tabf 12 1000 1000 6 [.sy .u8 (.add (.mul (.c 6) (.v 1)) (.c 0)) 0 255, .sy .u8 (.v 0) 10 99] := ⟨⟨.nil, by rw [fn_0_10]⟩⟩
theorem fn_0_100 : runs tabf 12 1000 1000 6 [.sy .u8 (.add (.mul (.c 6) (.v 1)) (.c 0)) 0 255, .sy .u8 (.v 0) 100 255] .nil = (FV.bool true = FV.bool true) := by kernel_rfl
theorem fnr_0_100 : Runs tabf 12 1000 1000 6 [.sy .u8 (.add (.mul (.c 6) (.v 1)) (.c 0)) 0 255, .sy .u8 (.v 0) 100 255] := ⟨⟨.nil, by rw [fn_0_100]⟩⟩
theorem fn_1_0 : runs tabf 12 1000 1000 6 [.sy .u8 (.add (.mul (.c 6) (.v 1)) (.c 1)) 1 255, .int .u8 0] .nil = (FV.bool true = FV.bool true) := by kernel_rfl
theorem fnr_1_0 : Runs tabf 12 1000 1000 6 [.sy .u8 (.add (.mul (.c 6) (.v 1)) (.c 1)) 1 255, .int .u8 0] := ⟨⟨.nil, by rw [fn_1_0]⟩⟩
theorem fn_1_1 : runs tabf 12 1000 1000 6 [.sy .u8 (.add (.mul (.c 6) (.v 1)) (.c 1)) 1 255, .sy .u8 (.v 0) 1 9] .nil = (FV.bool true = FV.bool true) := by kernel_rfl
theorem fnr_1_1 : Runs tabf 12 1000 1000 6 [.sy .u8 (.add (.mul (.c 6) (.v 1)) (.c 1)) 1 255, .sy .u8 (.v 0) 1 9] := ⟨⟨.nil, by rw [fn_1_1]⟩⟩
theorem fn_1_10 : runs tabf 12 1000 1000 6 [.sy .u8 (.add (.mul (.c 6) (.v 1)) (.c 1)) 1 255, .sy .u8 (.v 0) 10 99] .nil = (FV.bool true = FV.bool true) := by kernel_rfl
theorem fnr_1_10 : Runs tabf 12 1000 1000 6 [.sy .u8 (.add (.mul (.c 6) (.v 1)) (.c 1)) 1 255, .sy .u8 (.v 0) 10 99] := ⟨⟨.nil, by rw [fn_1_10]⟩⟩
theorem fn_1_100 : runs tabf 12 1000 1000 6 [.sy .u8 (.add (.mul (.c 6) (.v 1)) (.c 1)) 1 255, .sy .u8 (.v 0) 100 255] .nil = (FV.bool true = FV.bool true) := by kernel_rfl
theorem fnr_1_100 : Runs tabf 12 1000 1000 6 [.sy .u8 (.add (.mul (.c 6) (.v 1)) (.c 1)) 1 255, .sy .u8 (.v 0) 100 255] := ⟨⟨.nil, by rw [fn_1_100]⟩⟩
theorem fn_2_0 : runs tabf 12 1000 1000 6 [.sy .u8 (.add (.mul (.c 6) (.v 1)) (.c 2)) 2 255, .int .u8 0] .nil = (FV.bool true = FV.bool true) := by kernel_rfl
theorem fnr_2_0 : Runs tabf 12 1000 1000 6 [.sy .u8 (.add (.mul (.c 6) (.v 1)) (.c 2)) 2 255, .int .u8 0] := ⟨⟨.nil, by rw [fn_2_0]⟩⟩
theorem fn_2_1 : runs tabf 12 1000 1000 6 [.sy .u8 (.add (.mul (.c 6) (.v 1)) (.c 2)) 2 255, .sy .u8 (.v 0) 1 9] .nil = (FV.bool true = FV.bool true) := by kernel_rfl
theorem fnr_2_1 : Runs tabf 12 1000 1000 6 [.sy .u8 (.add (.mul (.c 6) (.v 1)) (.c 2)) 2 255, .sy .u8 (.v 0) 1 9] := ⟨⟨.nil, by rw [fn_2_1]⟩⟩
theorem fn_2_10 : runs tabf 12 1000 1000 6 [.sy .u8 (.add (.mul (.c 6) (.v 1)) (.c 2)) 2 255, .sy .u8 (.v 0) 10 99] .nil = (FV.bool true = FV.bool true) := by kernel_rfl
theorem fnr_2_10 : Runs tabf 12 1000 1000 6 [.sy .u8 (.add (.mul (.c 6) (.v 1)) (.c 2)) 2 255, .sy .u8 (.v 0) 10 99] := ⟨⟨.nil, by rw [fn_2_10]⟩⟩
theorem fn_2_100 : runs tabf 12 1000 1000 6 [.sy .u8 (.add (.mul (.c 6) (.v 1)) (.c 2)) 2 255, .sy .u8 (.v 0) 100 255] .nil = (FV.bool true = FV.bool true) := by kernel_rfl
theorem fnr_2_100 : Runs tabf 12 1000 1000 6 [.sy .u8 (.add (.mul (.c 6) (.v 1)) (.c 2)) 2 255, .sy .u8 (.v 0) 100 255] := ⟨⟨.nil, by rw [fn_2_100]⟩⟩
end Go.Proofs.YtofcohgonchgfaaGreat
