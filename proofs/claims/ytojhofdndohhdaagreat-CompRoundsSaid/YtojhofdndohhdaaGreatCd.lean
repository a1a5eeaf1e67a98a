/- CompRounds: its runs, reckoned. -/
import Derived.Test.YtojhofdndohhdaaGreatCs
import Derived.KernelRfl
set_option linter.unusedVariables false
set_option linter.unusedSectionVars false
set_option maxRecDepth 100000
namespace Go.Proofs.YtojhofdndohhdaaGreat
open Go Go.Sh Go.Va
theorem u0_1_0 (B : Vb) (h : @okF B F0) : letI : Vl := @Vl.mk B F0 h; runs (tw W0_23 W0_9) 13 1000 1000 3 [(.sy .u8 (.v 0) 1 9), .int .u8 0] (.u 0 (.u 0 (.u 0 .nil))) = (FV.bool true = FV.bool true) := by kernel_rfl
theorem u0_10_0 (B : Vb) (h : @okF B F0) : letI : Vl := @Vl.mk B F0 h; runs (tw W0_23 W0_9) 13 1000 1000 3 [(.sy .u8 (.v 0) 10 99), .int .u8 0] (.u 0 (.u 0 (.u 0 .nil))) = (FV.bool true = FV.bool true) := by kernel_rfl
theorem u0_100_0 (B : Vb) (h : @okF B F0) : letI : Vl := @Vl.mk B F0 h; runs (tw W0_23 W0_9) 13 1000 1000 3 [(.sy .u8 (.v 0) 100 255), .int .u8 0] (.u 0 (.u 0 (.u 0 .nil))) = (FV.bool true = FV.bool true) := by kernel_rfl
theorem u1_1_1 (B : Vb) (h : @okF B F1) : letI : Vl := @Vl.mk B F1 h; runs (tw W1_23 W1_9) 13 1000 1000 3 [(.sy .u8 (.v 0) 1 9), (.sy .u8 (.v 1) 1 9)] (.u 0 (.u 0 (.u 0 .nil))) = (FV.bool true = FV.bool true) := by kernel_rfl
theorem u1_1_10 (B : Vb) (h : @okF B F1) : letI : Vl := @Vl.mk B F1 h; runs (tw W1_23 W1_9) 13 1000 1000 3 [(.sy .u8 (.v 0) 1 9), (.sy .u8 (.v 1) 10 99)] (.u 0 (.u 0 (.u 0 .nil))) = (FV.bool true = FV.bool true) := by kernel_rfl
theorem u1_1_100 (B : Vb) (h : @okF B F1) : letI : Vl := @Vl.mk B F1 h; runs (tw W1_23 W1_9) 13 1000 1000 3 [(.sy .u8 (.v 0) 1 9), (.sy .u8 (.v 1) 100 255)] (.u 0 (.u 0 (.u 0 .nil))) = (FV.bool true = FV.bool true) := by kernel_rfl
theorem u1_10_1 (B : Vb) (h : @okF B F1) : letI : Vl := @Vl.mk B F1 h; runs (tw W1_23 W1_9) 13 1000 1000 3 [(.sy .u8 (.v 0) 10 99), (.sy .u8 (.v 1) 1 9)] (.u 0 (.u 0 (.u 0 .nil))) = (FV.bool true = FV.bool true) := by kernel_rfl
theorem u1_10_10 (B : Vb) (h : @okF B F1) : letI : Vl := @Vl.mk B F1 h; runs (tw W1_23 W1_9) 13 1000 1000 3 [(.sy .u8 (.v 0) 10 99), (.sy .u8 (.v 1) 10 99)] (.u 0 (.u 0 (.u 0 .nil))) = (FV.bool true = FV.bool true) := by kernel_rfl
theorem u1_10_100 (B : Vb) (h : @okF B F1) : letI : Vl := @Vl.mk B F1 h; runs (tw W1_23 W1_9) 13 1000 1000 3 [(.sy .u8 (.v 0) 10 99), (.sy .u8 (.v 1) 100 255)] (.u 0 (.u 0 (.u 0 .nil))) = (FV.bool true = FV.bool true) := by kernel_rfl
theorem u1_100_1 (B : Vb) (h : @okF B F1) : letI : Vl := @Vl.mk B F1 h; runs (tw W1_23 W1_9) 13 1000 1000 3 [(.sy .u8 (.v 0) 100 255), (.sy .u8 (.v 1) 1 9)] (.u 0 (.u 0 (.u 0 .nil))) = (FV.bool true = FV.bool true) := by kernel_rfl
theorem u1_100_10 (B : Vb) (h : @okF B F1) : letI : Vl := @Vl.mk B F1 h; runs (tw W1_23 W1_9) 13 1000 1000 3 [(.sy .u8 (.v 0) 100 255), (.sy .u8 (.v 1) 10 99)] (.u 0 (.u 0 (.u 0 .nil))) = (FV.bool true = FV.bool true) := by kernel_rfl
theorem u1_100_100 (B : Vb) (h : @okF B F1) : letI : Vl := @Vl.mk B F1 h; runs (tw W1_23 W1_9) 13 1000 1000 3 [(.sy .u8 (.v 0) 100 255), (.sy .u8 (.v 1) 100 255)] (.u 0 (.u 0 (.u 0 .nil))) = (FV.bool true = FV.bool true) := by kernel_rfl
theorem u2_0_0 (B : Vb) (h : @okF B F2) : letI : Vl := @Vl.mk B F2 h; runs (tw W2_23 W2_9) 13 1000 1000 3 [.int .u8 0, .int .u8 0] (.u 0 (.u 0 (.u 0 .nil))) = (FV.bool true = FV.bool true) := by kernel_rfl
theorem u3_0_1 (B : Vb) (h : @okF B F3) : letI : Vl := @Vl.mk B F3 h; runs (tw W3_23 W3_9) 13 1000 1000 3 [.int .u8 0, (.sy .u8 (.v 1) 1 9)] (.u 0 (.u 0 (.u 0 .nil))) = (FV.bool true = FV.bool true) := by kernel_rfl
theorem u3_0_10 (B : Vb) (h : @okF B F3) : letI : Vl := @Vl.mk B F3 h; runs (tw W3_23 W3_9) 13 1000 1000 3 [.int .u8 0, (.sy .u8 (.v 1) 10 99)] (.u 0 (.u 0 (.u 0 .nil))) = (FV.bool true = FV.bool true) := by kernel_rfl
theorem u3_0_100 (B : Vb) (h : @okF B F3) : letI : Vl := @Vl.mk B F3 h; runs (tw W3_23 W3_9) 13 1000 1000 3 [.int .u8 0, (.sy .u8 (.v 1) 100 255)] (.u 0 (.u 0 (.u 0 .nil))) = (FV.bool true = FV.bool true) := by kernel_rfl
end Go.Proofs.YtojhofdndohhdaaGreat
