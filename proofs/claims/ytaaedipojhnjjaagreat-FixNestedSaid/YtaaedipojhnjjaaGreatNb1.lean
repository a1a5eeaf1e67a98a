/- FixNested: what is reckoned. -/
import Derived.Test.YtaaedipojhnjjaaGreatNa
import Derived.Test.YtaaedipojhnjjaaGreatVsl
import Derived.KernelRfl
set_option linter.unusedVariables false
set_option linter.unusedSectionVars false
set_option maxRecDepth 100000
namespace Go.Proofs.YtaaedipojhnjjaaGreat
open Go Go.Sh Go.Va
theorem ln2s_0 (B : Vb) (h : @okF B nF_s) : letI : Vl := @Vl.mk B nF_s h; lsRun tab 15 1000 1000 m27 kb27 .nil nl2s_0 [] = (nl2s_0.s.x1 = nl2s_0.s.x1 ∧ reflT nl2s_0.s.t1) := by kernel_rfl
theorem ln4s_0 (B : Vb) (h : @okF B nF_s) : letI : Vl := @Vl.mk B nF_s h; lsRun tab 15 1000 1000 m27 kb27 (.f true (.f true (.f true (.u 0 .nil)))) nl4s_0 [nl4s_1] = (nl4s_0.s.x1 = nl4s_0.s.x1 ∧ reflT nl4s_0.s.t1) := by kernel_rfl
theorem ln5s_2 (B : Vb) (h : @okF B nF_s) : letI : Vl := @Vl.mk B nF_s h; lsRun tab 15 1000 1000 m27 kb27 (.f true (.u 0 .nil)) nl5s_2 [nl5s_3] = (nl5s_2.s.x1 = nl5s_2.s.x1 ∧ reflT nl5s_2.s.t1) := by kernel_rfl
theorem ln42_0 (B : Vb) (h : @okF B nF_0) : letI : Vl := @Vl.mk B nF_0 h; lsRun tab 15 1000 1000 m27 kb27 (.f true (.f true (.f true (.u 0 .nil)))) nl42_0 [nl42_1] = (nl42_0.s.x1 = nl42_0.s.x1 ∧ reflT nl42_0.s.t1) := by kernel_rfl
theorem wn4s (B : Vb) (h : @okF B nF_s) : letI : Vl := @Vl.mk B nF_s h; smRun tab 15 1000 1000 28 .nil nw4s = (nw4s.x1 = nw4s.x1 ∧ reflT nw4s.t1) := by kernel_rfl
theorem ln3s_1 (B : Vb) (h : @okF B nF_s) : letI : Vl := @Vl.mk B nF_s h; lsRun tab 15 1000 1000 m27 kb27 (.f true (.u 0 .nil)) nl3s_1 [nl3s_2] = (nl3s_1.s.x1 = nl3s_1.s.x1 ∧ reflT nl3s_1.s.t1) := by kernel_rfl
theorem ln5s_1 (B : Vb) (h : @okF B nF_s) : letI : Vl := @Vl.mk B nF_s h; lsRun tab 15 1000 1000 m27 kb27 (.f true (.u 0 .nil)) nl5s_1 [nl5s_2] = (nl5s_1.s.x1 = nl5s_1.s.x1 ∧ reflT nl5s_1.s.t1) := by kernel_rfl
theorem ln52_1 (B : Vb) (h : @okF B nF_0) : letI : Vl := @Vl.mk B nF_0 h; lsRun tab 15 1000 1000 m27 kb27 (.f true (.u 0 .nil)) nl52_1 [nl52_2] = (nl52_1.s.x1 = nl52_1.s.x1 ∧ reflT nl52_1.s.t1) := by kernel_rfl
theorem ln5s_3 (B : Vb) (h : @okF B nF_s) : letI : Vl := @Vl.mk B nF_s h; lsRun tab 15 1000 1000 m27 kb27 (.u 0 .nil) nl5s_3 [nl5s_4] = (nl5s_3.s.x1 = nl5s_3.s.x1 ∧ reflT nl5s_3.s.t1) := by kernel_rfl
theorem wn32 (B : Vb) (h : @okF B nF_0) : letI : Vl := @Vl.mk B nF_0 h; smRun tab 15 1000 1000 28 .nil nw32 = (nw32.x1 = nw32.x1 ∧ reflT nw32.t1) := by kernel_rfl
theorem ln32_2 (B : Vb) (h : @okF B nF_0) : letI : Vl := @Vl.mk B nF_0 h; lsRun tab 15 1000 1000 m27 kb27 .nil nl32_2 [] = (nl32_2.s.x1 = nl32_2.s.x1 ∧ reflT nl32_2.s.t1) := by kernel_rfl
theorem lq51 (B : Vb) (h : @okF B nF_0) : letI : Vl := @Vl.mk B nF_0 h; lsRun tab 15 1000 1000 m28 kb28 .nil ny51 [] = (ny51.s.x1 = ny51.s.x1 ∧ reflT ny51.s.t1) := by kernel_rfl
theorem wn22 (B : Vb) (h : @okF B nF_0) : letI : Vl := @Vl.mk B nF_0 h; smRun tab 15 1000 1000 28 .nil nw22 = (nw22.x1 = nw22.x1 ∧ reflT nw22.t1) := by kernel_rfl
theorem ln11_0 (B : Vb) (h : @okF B nF_0) : letI : Vl := @Vl.mk B nF_0 h; lsRun tab 15 1000 1000 m27 kb27 .nil nl11_0 [] = (nl11_0.s.x1 = nl11_0.s.x1 ∧ reflT nl11_0.s.t1) := by kernel_rfl
theorem wn1s (B : Vb) (h : @okF B nF_s) : letI : Vl := @Vl.mk B nF_s h; smRun tab 15 1000 1000 28 .nil nw1s = (nw1s.x1 = nw1s.x1 ∧ reflT nw1s.t1) := by kernel_rfl
theorem wn11 (B : Vb) (h : @okF B nF_0) : letI : Vl := @Vl.mk B nF_0 h; smRun tab 15 1000 1000 28 .nil nw11 = (nw11.x1 = nw11.x1 ∧ reflT nw11.t1) := by kernel_rfl
theorem un5s (B : Vb) (h : @okF B nF_s) : letI : Vl := @Vl.mk B nF_s h; smRun (tabU nl5s_0) 17 1000 1000 27 (.u 0 .nil) nu5s = (nu5s.x1 = nu5s.x1 ∧ reflT nu5s.t1) := by kernel_rfl
theorem un42 (B : Vb) (h : @okF B nF_0) : letI : Vl := @Vl.mk B nF_0 h; smRun (tabU nl42_0) 17 1000 1000 27 (.u 0 .nil) nu42 = (nu42.x1 = nu42.x1 ∧ reflT nu42.t1) := by kernel_rfl
theorem un31 (B : Vb) (h : @okF B nF_0) : letI : Vl := @Vl.mk B nF_0 h; smRun (tabU nl31_0) 17 1000 1000 27 (.u 0 .nil) nu31 = (nu31.x1 = nu31.x1 ∧ reflT nu31.t1) := by kernel_rfl
theorem un20 (B : Vb) (h : @okF B nF_0) : letI : Vl := @Vl.mk B nF_0 h; smRun (tabU nl20_0) 17 1000 1000 27 (.u 0 .nil) nu20 = (nu20.x1 = nu20.x1 ∧ reflT nu20.t1) := by kernel_rfl
end Go.Proofs.YtaaedipojhnjjaaGreat
