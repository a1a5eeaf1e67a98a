/- FixNested: what is reckoned. -/
import Derived.Test.YtaaedipojhnjjaaGreatNa
import Derived.Test.YtaaedipojhnjjaaGreatVsl
import Derived.KernelRfl
set_option linter.unusedVariables false
set_option linter.unusedSectionVars false
set_option maxRecDepth 100000
namespace Go.Proofs.YtaaedipojhnjjaaGreat
open Go Go.Sh Go.Va
theorem ln5s_0 (B : Vb) (h : @okF B nF_s) : letI : Vl := @Vl.mk B nF_s h; lsRun tab 15 1000 1000 m27 kb27 (.f true (.f true (.f true (.u 0 .nil)))) nl5s_0 [nl5s_1] = (nl5s_0.s.x1 = nl5s_0.s.x1 ∧ reflT nl5s_0.s.t1) := by kernel_rfl
theorem ln41_0 (B : Vb) (h : @okF B nF_0) : letI : Vl := @Vl.mk B nF_0 h; lsRun tab 15 1000 1000 m27 kb27 .nil nl41_0 [] = (nl41_0.s.x1 = nl41_0.s.x1 ∧ reflT nl41_0.s.t1) := by kernel_rfl
theorem ln52_2 (B : Vb) (h : @okF B nF_0) : letI : Vl := @Vl.mk B nF_0 h; lsRun tab 15 1000 1000 m27 kb27 (.f true (.u 0 .nil)) nl52_2 [nl52_3] = (nl52_2.s.x1 = nl52_2.s.x1 ∧ reflT nl52_2.s.t1) := by kernel_rfl
theorem ln32_0 (B : Vb) (h : @okF B nF_0) : letI : Vl := @Vl.mk B nF_0 h; lsRun tab 15 1000 1000 m27 kb27 (.f true (.f true (.f true (.u 0 .nil)))) nl32_0 [nl32_1] = (nl32_0.s.x1 = nl32_0.s.x1 ∧ reflT nl32_0.s.t1) := by kernel_rfl
theorem ln5s_5 (B : Vb) (h : @okF B nF_s) : letI : Vl := @Vl.mk B nF_s h; lsRun tab 15 1000 1000 m27 kb27 .nil nl5s_5 [] = (nl5s_5.s.x1 = nl5s_5.s.x1 ∧ reflT nl5s_5.s.t1) := by kernel_rfl
theorem wn41 (B : Vb) (h : @okF B nF_0) : letI : Vl := @Vl.mk B nF_0 h; smRun tab 15 1000 1000 28 .nil nw41 = (nw41.x1 = nw41.x1 ∧ reflT nw41.t1) := by kernel_rfl
theorem ln5s_4 (B : Vb) (h : @okF B nF_s) : letI : Vl := @Vl.mk B nF_s h; lsRun tab 15 1000 1000 m27 kb27 (.u 0 .nil) nl5s_4 [nl5s_5] = (nl5s_4.s.x1 = nl5s_4.s.x1 ∧ reflT nl5s_4.s.t1) := by kernel_rfl
theorem ln52_4 (B : Vb) (h : @okF B nF_0) : letI : Vl := @Vl.mk B nF_0 h; lsRun tab 15 1000 1000 m27 kb27 (.u 0 .nil) nl52_4 [nl52_5] = (nl52_4.s.x1 = nl52_4.s.x1 ∧ reflT nl52_4.s.t1) := by kernel_rfl
theorem wn3s (B : Vb) (h : @okF B nF_s) : letI : Vl := @Vl.mk B nF_s h; smRun tab 15 1000 1000 28 .nil nw3s = (nw3s.x1 = nw3s.x1 ∧ reflT nw3s.t1) := by kernel_rfl
theorem wn30 (B : Vb) (h : @okF B nF_0) : letI : Vl := @Vl.mk B nF_0 h; smRun tab 15 1000 1000 28 .nil nw30 = (nw30.x1 = nw30.x1 ∧ reflT nw30.t1) := by kernel_rfl
theorem wn5s (B : Vb) (h : @okF B nF_s) : letI : Vl := @Vl.mk B nF_s h; smRun (tabD ny5s) 17 1000 1000 28 (.f true (.u 0 .nil)) nw5s = (nw5s.x1 = nw5s.x1 ∧ reflT nw5s.t1) := by kernel_rfl
theorem wn51 (B : Vb) (h : @okF B nF_0) : letI : Vl := @Vl.mk B nF_0 h; smRun (tabD ny51) 17 1000 1000 28 (.f true (.u 0 .nil)) nw51 = (nw51.x1 = nw51.x1 ∧ reflT nw51.t1) := by kernel_rfl
theorem wn21 (B : Vb) (h : @okF B nF_0) : letI : Vl := @Vl.mk B nF_0 h; smRun tab 15 1000 1000 28 .nil nw21 = (nw21.x1 = nw21.x1 ∧ reflT nw21.t1) := by kernel_rfl
theorem ln10_0 (B : Vb) (h : @okF B nF_0) : letI : Vl := @Vl.mk B nF_0 h; lsRun tab 15 1000 1000 m27 kb27 .nil nl10_0 [] = (nl10_0.s.x1 = nl10_0.s.x1 ∧ reflT nl10_0.s.t1) := by kernel_rfl
theorem ln30_0 (B : Vb) (h : @okF B nF_0) : letI : Vl := @Vl.mk B nF_0 h; lsRun tab 15 1000 1000 m27 kb27 .nil nl30_0 [] = (nl30_0.s.x1 = nl30_0.s.x1 ∧ reflT nl30_0.s.t1) := by kernel_rfl
theorem wn12 (B : Vb) (h : @okF B nF_0) : letI : Vl := @Vl.mk B nF_0 h; smRun tab 15 1000 1000 28 .nil nw12 = (nw12.x1 = nw12.x1 ∧ reflT nw12.t1) := by kernel_rfl
theorem un4s (B : Vb) (h : @okF B nF_s) : letI : Vl := @Vl.mk B nF_s h; smRun (tabU nl4s_0) 17 1000 1000 27 (.u 0 .nil) nu4s = (nu4s.x1 = nu4s.x1 ∧ reflT nu4s.t1) := by kernel_rfl
theorem un32 (B : Vb) (h : @okF B nF_0) : letI : Vl := @Vl.mk B nF_0 h; smRun (tabU nl32_0) 17 1000 1000 27 (.u 0 .nil) nu32 = (nu32.x1 = nu32.x1 ∧ reflT nu32.t1) := by kernel_rfl
theorem un21 (B : Vb) (h : @okF B nF_0) : letI : Vl := @Vl.mk B nF_0 h; smRun (tabU nl21_0) 17 1000 1000 27 (.u 0 .nil) nu21 = (nu21.x1 = nu21.x1 ∧ reflT nu21.t1) := by kernel_rfl
theorem un10 (B : Vb) (h : @okF B nF_0) : letI : Vl := @Vl.mk B nF_0 h; smRun (tabU nl10_0) 17 1000 1000 27 (.u 0 .nil) nu10 = (nu10.x1 = nu10.x1 ∧ reflT nu10.t1) := by kernel_rfl
theorem un50 (B : Vb) (h : @okF B nF_0) : letI : Vl := @Vl.mk B nF_0 h; smRun (tabU nl50_0) 17 1000 1000 27 (.u 0 .nil) nu50 = (nu50.x1 = nu50.x1 ∧ reflT nu50.t1) := by kernel_rfl
end Go.Proofs.YtaaedipojhnjjaaGreat
