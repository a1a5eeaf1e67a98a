/- FixNested: what is reckoned. -/
import Derived.Test.YtaaedipojhnjjaaGreatNa
import Derived.Test.YtaaedipojhnjjaaGreatVsl
import Derived.KernelRfl
set_option linter.unusedVariables false
set_option linter.unusedSectionVars false
set_option maxRecDepth 100000
namespace Go.Proofs.YtaaedipojhnjjaaGreat
open Go Go.Sh Go.Va
theorem ln51_0 (B : Vb) (h : @okF B nF_0) : letI : Vl := @Vl.mk B nF_0 h; lsRun tab 15 1000 1000 m27 kb27 .nil nl51_0 [] = (nl51_0.s.x1 = nl51_0.s.x1 ∧ reflT nl51_0.s.t1) := by kernel_rfl
theorem ln4s_2 (B : Vb) (h : @okF B nF_s) : letI : Vl := @Vl.mk B nF_s h; lsRun tab 15 1000 1000 m27 kb27 (.f true (.u 0 .nil)) nl4s_2 [nl4s_3] = (nl4s_2.s.x1 = nl4s_2.s.x1 ∧ reflT nl4s_2.s.t1) := by kernel_rfl
theorem wn50 (B : Vb) (h : @okF B nF_0) : letI : Vl := @Vl.mk B nF_0 h; smRun tab 15 1000 1000 28 .nil nw50 = (nw50.x1 = nw50.x1 ∧ reflT nw50.t1) := by kernel_rfl
theorem ln31_0 (B : Vb) (h : @okF B nF_0) : letI : Vl := @Vl.mk B nF_0 h; lsRun tab 15 1000 1000 m27 kb27 .nil nl31_0 [] = (nl31_0.s.x1 = nl31_0.s.x1 ∧ reflT nl31_0.s.t1) := by kernel_rfl
theorem wn42 (B : Vb) (h : @okF B nF_0) : letI : Vl := @Vl.mk B nF_0 h; smRun tab 15 1000 1000 28 .nil nw42 = (nw42.x1 = nw42.x1 ∧ reflT nw42.t1) := by kernel_rfl
theorem ln4s_1 (B : Vb) (h : @okF B nF_s) : letI : Vl := @Vl.mk B nF_s h; lsRun tab 15 1000 1000 m27 kb27 (.f true (.u 0 .nil)) nl4s_1 [nl4s_2] = (nl4s_1.s.x1 = nl4s_1.s.x1 ∧ reflT nl4s_1.s.t1) := by kernel_rfl
theorem ln42_1 (B : Vb) (h : @okF B nF_0) : letI : Vl := @Vl.mk B nF_0 h; lsRun tab 15 1000 1000 m27 kb27 (.f true (.u 0 .nil)) nl42_1 [nl42_2] = (nl42_1.s.x1 = nl42_1.s.x1 ∧ reflT nl42_1.s.t1) := by kernel_rfl
theorem ln42_3 (B : Vb) (h : @okF B nF_0) : letI : Vl := @Vl.mk B nF_0 h; lsRun tab 15 1000 1000 m27 kb27 .nil nl42_3 [] = (nl42_3.s.x1 = nl42_3.s.x1 ∧ reflT nl42_3.s.t1) := by kernel_rfl
theorem ln21_0 (B : Vb) (h : @okF B nF_0) : letI : Vl := @Vl.mk B nF_0 h; lsRun tab 15 1000 1000 m27 kb27 .nil nl21_0 [] = (nl21_0.s.x1 = nl21_0.s.x1 ∧ reflT nl21_0.s.t1) := by kernel_rfl
theorem ln1s_0 (B : Vb) (h : @okF B nF_s) : letI : Vl := @Vl.mk B nF_s h; lsRun tab 15 1000 1000 m27 kb27 .nil nl1s_0 [] = (nl1s_0.s.x1 = nl1s_0.s.x1 ∧ reflT nl1s_0.s.t1) := by kernel_rfl
theorem ln3s_2 (B : Vb) (h : @okF B nF_s) : letI : Vl := @Vl.mk B nF_s h; lsRun tab 15 1000 1000 m27 kb27 .nil nl3s_2 [] = (nl3s_2.s.x1 = nl3s_2.s.x1 ∧ reflT nl3s_2.s.t1) := by kernel_rfl
theorem lq52 (B : Vb) (h : @okF B nF_0) : letI : Vl := @Vl.mk B nF_0 h; lsRun tab 15 1000 1000 m28 kb28 .nil ny52 [] = (ny52.s.x1 = ny52.s.x1 ∧ reflT ny52.s.t1) := by kernel_rfl
theorem ln12_0 (B : Vb) (h : @okF B nF_0) : letI : Vl := @Vl.mk B nF_0 h; lsRun tab 15 1000 1000 m27 kb27 .nil nl12_0 [] = (nl12_0.s.x1 = nl12_0.s.x1 ∧ reflT nl12_0.s.t1) := by kernel_rfl
theorem ln20_0 (B : Vb) (h : @okF B nF_0) : letI : Vl := @Vl.mk B nF_0 h; lsRun tab 15 1000 1000 m27 kb27 .nil nl20_0 [] = (nl20_0.s.x1 = nl20_0.s.x1 ∧ reflT nl20_0.s.t1) := by kernel_rfl
theorem ln40_0 (B : Vb) (h : @okF B nF_0) : letI : Vl := @Vl.mk B nF_0 h; lsRun tab 15 1000 1000 m27 kb27 .nil nl40_0 [] = (nl40_0.s.x1 = nl40_0.s.x1 ∧ reflT nl40_0.s.t1) := by kernel_rfl
theorem wn10 (B : Vb) (h : @okF B nF_0) : letI : Vl := @Vl.mk B nF_0 h; smRun tab 15 1000 1000 28 .nil nw10 = (nw10.x1 = nw10.x1 ∧ reflT nw10.t1) := by kernel_rfl
theorem un22 (B : Vb) (h : @okF B nF_0) : letI : Vl := @Vl.mk B nF_0 h; smRun (tabU nl22_0) 17 1000 1000 27 (.u 0 .nil) nu22 = (nu22.x1 = nu22.x1 ∧ reflT nu22.t1) := by kernel_rfl
theorem un11 (B : Vb) (h : @okF B nF_0) : letI : Vl := @Vl.mk B nF_0 h; smRun (tabU nl11_0) 17 1000 1000 27 (.u 0 .nil) nu11 = (nu11.x1 = nu11.x1 ∧ reflT nu11.t1) := by kernel_rfl
theorem un51 (B : Vb) (h : @okF B nF_0) : letI : Vl := @Vl.mk B nF_0 h; smRun (tabU nl51_0) 17 1000 1000 27 (.u 0 .nil) nu51 = (nu51.x1 = nu51.x1 ∧ reflT nu51.t1) := by kernel_rfl
theorem un40 (B : Vb) (h : @okF B nF_0) : letI : Vl := @Vl.mk B nF_0 h; smRun (tabU nl40_0) 17 1000 1000 27 (.u 0 .nil) nu40 = (nu40.x1 = nu40.x1 ∧ reflT nu40.t1) := by kernel_rfl
end Go.Proofs.YtaaedipojhnjjaaGreat
