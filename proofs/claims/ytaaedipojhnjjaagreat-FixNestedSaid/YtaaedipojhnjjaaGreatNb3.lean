/- FixNested: what is reckoned. -/
import Derived.Test.YtaaedipojhnjjaaGreatNa
import Derived.Test.YtaaedipojhnjjaaGreatVsl
import Derived.KernelRfl
set_option linter.unusedVariables false
set_option linter.unusedSectionVars false
set_option maxRecDepth 100000
namespace Go.Proofs.YtaaedipojhnjjaaGreat
open Go Go.Sh Go.Va
theorem ln22_0 (B : Vb) (h : @okF B nF_0) : letI : Vl := @Vl.mk B nF_0 h; lsRun tab 15 1000 1000 m27 kb27 .nil nl22_0 [] = (nl22_0.s.x1 = nl22_0.s.x1 ∧ reflT nl22_0.s.t1) := by kernel_rfl
theorem ln52_0 (B : Vb) (h : @okF B nF_0) : letI : Vl := @Vl.mk B nF_0 h; lsRun tab 15 1000 1000 m27 kb27 (.f true (.f true (.f true (.u 0 .nil)))) nl52_0 [nl52_1] = (nl52_0.s.x1 = nl52_0.s.x1 ∧ reflT nl52_0.s.t1) := by kernel_rfl
theorem ln42_2 (B : Vb) (h : @okF B nF_0) : letI : Vl := @Vl.mk B nF_0 h; lsRun tab 15 1000 1000 m27 kb27 (.f true (.u 0 .nil)) nl42_2 [nl42_3] = (nl42_2.s.x1 = nl42_2.s.x1 ∧ reflT nl42_2.s.t1) := by kernel_rfl
theorem ln3s_0 (B : Vb) (h : @okF B nF_s) : letI : Vl := @Vl.mk B nF_s h; lsRun tab 15 1000 1000 m27 kb27 (.f true (.f true (.f true (.u 0 .nil)))) nl3s_0 [nl3s_1] = (nl3s_0.s.x1 = nl3s_0.s.x1 ∧ reflT nl3s_0.s.t1) := by kernel_rfl
theorem ln52_5 (B : Vb) (h : @okF B nF_0) : letI : Vl := @Vl.mk B nF_0 h; lsRun tab 15 1000 1000 m27 kb27 .nil nl52_5 [] = (nl52_5.s.x1 = nl52_5.s.x1 ∧ reflT nl52_5.s.t1) := by kernel_rfl
theorem wn40 (B : Vb) (h : @okF B nF_0) : letI : Vl := @Vl.mk B nF_0 h; smRun tab 15 1000 1000 28 .nil nw40 = (nw40.x1 = nw40.x1 ∧ reflT nw40.t1) := by kernel_rfl
theorem ln32_1 (B : Vb) (h : @okF B nF_0) : letI : Vl := @Vl.mk B nF_0 h; lsRun tab 15 1000 1000 m27 kb27 (.f true (.u 0 .nil)) nl32_1 [nl32_2] = (nl32_1.s.x1 = nl32_1.s.x1 ∧ reflT nl32_1.s.t1) := by kernel_rfl
theorem ln4s_3 (B : Vb) (h : @okF B nF_s) : letI : Vl := @Vl.mk B nF_s h; lsRun tab 15 1000 1000 m27 kb27 .nil nl4s_3 [] = (nl4s_3.s.x1 = nl4s_3.s.x1 ∧ reflT nl4s_3.s.t1) := by kernel_rfl
theorem ln52_3 (B : Vb) (h : @okF B nF_0) : letI : Vl := @Vl.mk B nF_0 h; lsRun tab 15 1000 1000 m27 kb27 (.u 0 .nil) nl52_3 [nl52_4] = (nl52_3.s.x1 = nl52_3.s.x1 ∧ reflT nl52_3.s.t1) := by kernel_rfl
theorem wn31 (B : Vb) (h : @okF B nF_0) : letI : Vl := @Vl.mk B nF_0 h; smRun tab 15 1000 1000 28 .nil nw31 = (nw31.x1 = nw31.x1 ∧ reflT nw31.t1) := by kernel_rfl
theorem lq5s (B : Vb) (h : @okF B nF_s) : letI : Vl := @Vl.mk B nF_s h; lsRun tab 15 1000 1000 m28 kb28 .nil ny5s [] = (ny5s.s.x1 = ny5s.s.x1 ∧ reflT ny5s.s.t1) := by kernel_rfl
theorem wn52 (B : Vb) (h : @okF B nF_0) : letI : Vl := @Vl.mk B nF_0 h; smRun (tabD ny52) 17 1000 1000 28 (.f true (.u 0 .nil)) nw52 = (nw52.x1 = nw52.x1 ∧ reflT nw52.t1) := by kernel_rfl
theorem wn2s (B : Vb) (h : @okF B nF_s) : letI : Vl := @Vl.mk B nF_s h; smRun tab 15 1000 1000 28 .nil nw2s = (nw2s.x1 = nw2s.x1 ∧ reflT nw2s.t1) := by kernel_rfl
theorem wn20 (B : Vb) (h : @okF B nF_0) : letI : Vl := @Vl.mk B nF_0 h; smRun tab 15 1000 1000 28 .nil nw20 = (nw20.x1 = nw20.x1 ∧ reflT nw20.t1) := by kernel_rfl
theorem ln50_0 (B : Vb) (h : @okF B nF_0) : letI : Vl := @Vl.mk B nF_0 h; lsRun tab 15 1000 1000 m27 kb27 .nil nl50_0 [] = (nl50_0.s.x1 = nl50_0.s.x1 ∧ reflT nl50_0.s.t1) := by kernel_rfl
theorem un1s (B : Vb) (h : @okF B nF_s) : letI : Vl := @Vl.mk B nF_s h; smRun (tabU nl1s_0) 17 1000 1000 27 (.u 0 .nil) nu1s = (nu1s.x1 = nu1s.x1 ∧ reflT nu1s.t1) := by kernel_rfl
theorem un2s (B : Vb) (h : @okF B nF_s) : letI : Vl := @Vl.mk B nF_s h; smRun (tabU nl2s_0) 17 1000 1000 27 (.u 0 .nil) nu2s = (nu2s.x1 = nu2s.x1 ∧ reflT nu2s.t1) := by kernel_rfl
theorem un3s (B : Vb) (h : @okF B nF_s) : letI : Vl := @Vl.mk B nF_s h; smRun (tabU nl3s_0) 17 1000 1000 27 (.u 0 .nil) nu3s = (nu3s.x1 = nu3s.x1 ∧ reflT nu3s.t1) := by kernel_rfl
theorem un12 (B : Vb) (h : @okF B nF_0) : letI : Vl := @Vl.mk B nF_0 h; smRun (tabU nl12_0) 17 1000 1000 27 (.u 0 .nil) nu12 = (nu12.x1 = nu12.x1 ∧ reflT nu12.t1) := by kernel_rfl
theorem un52 (B : Vb) (h : @okF B nF_0) : letI : Vl := @Vl.mk B nF_0 h; smRun (tabU nl52_0) 17 1000 1000 27 (.u 0 .nil) nu52 = (nu52.x1 = nu52.x1 ∧ reflT nu52.t1) := by kernel_rfl
theorem un41 (B : Vb) (h : @okF B nF_0) : letI : Vl := @Vl.mk B nF_0 h; smRun (tabU nl41_0) 17 1000 1000 27 (.u 0 .nil) nu41 = (nu41.x1 = nu41.x1 ∧ reflT nu41.t1) := by kernel_rfl
theorem un30 (B : Vb) (h : @okF B nF_0) : letI : Vl := @Vl.mk B nF_0 h; smRun (tabU nl30_0) 17 1000 1000 27 (.u 0 .nil) nu30 = (nu30.x1 = nu30.x1 ∧ reflT nu30.t1) := by kernel_rfl
end Go.Proofs.YtaaedipojhnjjaaGreat
