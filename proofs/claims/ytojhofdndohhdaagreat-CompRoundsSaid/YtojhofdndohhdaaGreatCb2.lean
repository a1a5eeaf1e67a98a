/- CompRounds: steps, reckoned. -/
import Derived.Test.YtojhofdndohhdaaGreatCs
import Derived.KernelRfl
set_option linter.unusedVariables false
set_option linter.unusedSectionVars false
set_option maxRecDepth 100000
namespace Go.Proofs.YtojhofdndohhdaaGreat
open Go Go.Sh Go.Va
theorem r3_23_0 (B : Vb) (h : @okF B F3) : letI : Vl := @Vl.mk B F3 h; smRun tab 13 1000 1000 17 .nil S3_23_0 = (S3_23_0.x1 = S3_23_0.x1 ∧ reflT S3_23_0.t1) := by kernel_rfl
theorem o3_23_0 (B : Vb) (h : @okF B F3) (G : Gd) (hg : ¬ G.g) : @SmOk B G Tryz.prog 17 S3_23_0 := by
  letI : Vl := @Vl.mk B F3 h
  exact sm_ok tab_ok (by kernel_rfl) (by kernel_rfl) (r3_23_0 B h) G hg
theorem r3_23_1 (B : Vb) (h : @okF B F3) : letI : Vl := @Vl.mk B F3 h; smRun tab 13 1000 1000 17 .nil S3_23_1 = (S3_23_1.x1 = S3_23_1.x1 ∧ reflT S3_23_1.t1) := by kernel_rfl
theorem o3_23_1 (B : Vb) (h : @okF B F3) (G : Gd) (hg : ¬ G.g) : @SmOk B G Tryz.prog 17 S3_23_1 := by
  letI : Vl := @Vl.mk B F3 h
  exact sm_ok tab_ok (by kernel_rfl) (by kernel_rfl) (r3_23_1 B h) G hg
theorem r3_23_2 (B : Vb) (h : @okF B F3) : letI : Vl := @Vl.mk B F3 h; smRun tab 13 1000 1000 17 .nil S3_23_2 = (S3_23_2.x1 = S3_23_2.x1 ∧ reflT S3_23_2.t1) := by kernel_rfl
theorem o3_23_2 (B : Vb) (h : @okF B F3) (G : Gd) (hg : ¬ G.g) : @SmOk B G Tryz.prog 17 S3_23_2 := by
  letI : Vl := @Vl.mk B F3 h
  exact sm_ok tab_ok (by kernel_rfl) (by kernel_rfl) (r3_23_2 B h) G hg
theorem r3_23_3 (B : Vb) (h : @okF B F3) : letI : Vl := @Vl.mk B F3 h; smRun tab 13 1000 1000 17 .nil S3_23_3 = (S3_23_3.x1 = S3_23_3.x1 ∧ reflT S3_23_3.t1) := by kernel_rfl
theorem o3_23_3 (B : Vb) (h : @okF B F3) (G : Gd) (hg : ¬ G.g) : @SmOk B G Tryz.prog 17 S3_23_3 := by
  letI : Vl := @Vl.mk B F3 h
  exact sm_ok tab_ok (by kernel_rfl) (by kernel_rfl) (r3_23_3 B h) G hg
theorem r3_23_4 (B : Vb) (h : @okF B F3) : letI : Vl := @Vl.mk B F3 h; smRun tab 13 1000 1000 17 .nil S3_23_4 = (S3_23_4.x1 = S3_23_4.x1 ∧ reflT S3_23_4.t1) := by kernel_rfl
theorem o3_23_4 (B : Vb) (h : @okF B F3) (G : Gd) (hg : ¬ G.g) : @SmOk B G Tryz.prog 17 S3_23_4 := by
  letI : Vl := @Vl.mk B F3 h
  exact sm_ok tab_ok (by kernel_rfl) (by kernel_rfl) (r3_23_4 B h) G hg
theorem r3_23_5 (B : Vb) (h : @okF B F3) : letI : Vl := @Vl.mk B F3 h; smRun tab 13 1000 1000 17 .nil S3_23_5 = (S3_23_5.x1 = S3_23_5.x1 ∧ reflT S3_23_5.t1) := by kernel_rfl
theorem o3_23_5 (B : Vb) (h : @okF B F3) (G : Gd) (hg : ¬ G.g) : @SmOk B G Tryz.prog 17 S3_23_5 := by
  letI : Vl := @Vl.mk B F3 h
  exact sm_ok tab_ok (by kernel_rfl) (by kernel_rfl) (r3_23_5 B h) G hg
end Go.Proofs.YtojhofdndohhdaaGreat
