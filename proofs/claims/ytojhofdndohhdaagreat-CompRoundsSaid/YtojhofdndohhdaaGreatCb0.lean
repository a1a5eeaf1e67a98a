/- CompRounds: steps, reckoned. -/
import Derived.Test.YtojhofdndohhdaaGreatCs
import Derived.KernelRfl
set_option linter.unusedVariables false
set_option linter.unusedSectionVars false
set_option maxRecDepth 100000
namespace Go.Proofs.YtojhofdndohhdaaGreat
open Go Go.Sh Go.Va
theorem r0_23_0 (B : Vb) (h : @okF B F0) : letI : Vl := @Vl.mk B F0 h; smRun tab 13 1000 1000 17 .nil S0_23_0 = (S0_23_0.x1 = S0_23_0.x1 ∧ reflT S0_23_0.t1) := by kernel_rfl
theorem o0_23_0 (B : Vb) (h : @okF B F0) (G : Gd) (hg : ¬ G.g) : @SmOk B G Tryz.prog 17 S0_23_0 := by
  letI : Vl := @Vl.mk B F0 h
  exact sm_ok tab_ok (by kernel_rfl) (by kernel_rfl) (r0_23_0 B h) G hg
theorem r0_23_1 (B : Vb) (h : @okF B F0) : letI : Vl := @Vl.mk B F0 h; smRun tab 13 1000 1000 17 .nil S0_23_1 = (S0_23_1.x1 = S0_23_1.x1 ∧ reflT S0_23_1.t1) := by kernel_rfl
theorem o0_23_1 (B : Vb) (h : @okF B F0) (G : Gd) (hg : ¬ G.g) : @SmOk B G Tryz.prog 17 S0_23_1 := by
  letI : Vl := @Vl.mk B F0 h
  exact sm_ok tab_ok (by kernel_rfl) (by kernel_rfl) (r0_23_1 B h) G hg
theorem r0_9_0 (B : Vb) (h : @okF B F0) : letI : Vl := @Vl.mk B F0 h; smRun tab 12 1000 1000 26 .nil S0_9_0 = (S0_9_0.x1 = S0_9_0.x1 ∧ reflT S0_9_0.t1) := by kernel_rfl
theorem o0_9_0 (B : Vb) (h : @okF B F0) (G : Gd) (hg : ¬ G.g) : @SmOk B G Tryz.prog 26 S0_9_0 := by
  letI : Vl := @Vl.mk B F0 h
  exact sm_ok tab_ok (by kernel_rfl) (by kernel_rfl) (r0_9_0 B h) G hg
theorem r0_9_1 (B : Vb) (h : @okF B F0) : letI : Vl := @Vl.mk B F0 h; smRun tab 12 1000 1000 26 .nil S0_9_1 = (S0_9_1.x1 = S0_9_1.x1 ∧ reflT S0_9_1.t1) := by kernel_rfl
theorem o0_9_1 (B : Vb) (h : @okF B F0) (G : Gd) (hg : ¬ G.g) : @SmOk B G Tryz.prog 26 S0_9_1 := by
  letI : Vl := @Vl.mk B F0 h
  exact sm_ok tab_ok (by kernel_rfl) (by kernel_rfl) (r0_9_1 B h) G hg
theorem r2_23_0 (B : Vb) (h : @okF B F2) : letI : Vl := @Vl.mk B F2 h; smRun tab 13 1000 1000 17 .nil S2_23_0 = (S2_23_0.x1 = S2_23_0.x1 ∧ reflT S2_23_0.t1) := by kernel_rfl
theorem o2_23_0 (B : Vb) (h : @okF B F2) (G : Gd) (hg : ¬ G.g) : @SmOk B G Tryz.prog 17 S2_23_0 := by
  letI : Vl := @Vl.mk B F2 h
  exact sm_ok tab_ok (by kernel_rfl) (by kernel_rfl) (r2_23_0 B h) G hg
theorem r2_23_1 (B : Vb) (h : @okF B F2) : letI : Vl := @Vl.mk B F2 h; smRun tab 13 1000 1000 17 .nil S2_23_1 = (S2_23_1.x1 = S2_23_1.x1 ∧ reflT S2_23_1.t1) := by kernel_rfl
theorem o2_23_1 (B : Vb) (h : @okF B F2) (G : Gd) (hg : ¬ G.g) : @SmOk B G Tryz.prog 17 S2_23_1 := by
  letI : Vl := @Vl.mk B F2 h
  exact sm_ok tab_ok (by kernel_rfl) (by kernel_rfl) (r2_23_1 B h) G hg
theorem r2_9_0 (B : Vb) (h : @okF B F2) : letI : Vl := @Vl.mk B F2 h; smRun tab 12 1000 1000 26 .nil S2_9_0 = (S2_9_0.x1 = S2_9_0.x1 ∧ reflT S2_9_0.t1) := by kernel_rfl
theorem o2_9_0 (B : Vb) (h : @okF B F2) (G : Gd) (hg : ¬ G.g) : @SmOk B G Tryz.prog 26 S2_9_0 := by
  letI : Vl := @Vl.mk B F2 h
  exact sm_ok tab_ok (by kernel_rfl) (by kernel_rfl) (r2_9_0 B h) G hg
theorem r2_9_1 (B : Vb) (h : @okF B F2) : letI : Vl := @Vl.mk B F2 h; smRun tab 12 1000 1000 26 .nil S2_9_1 = (S2_9_1.x1 = S2_9_1.x1 ∧ reflT S2_9_1.t1) := by kernel_rfl
theorem o2_9_1 (B : Vb) (h : @okF B F2) (G : Gd) (hg : ¬ G.g) : @SmOk B G Tryz.prog 26 S2_9_1 := by
  letI : Vl := @Vl.mk B F2 h
  exact sm_ok tab_ok (by kernel_rfl) (by kernel_rfl) (r2_9_1 B h) G hg
end Go.Proofs.YtojhofdndohhdaaGreat
