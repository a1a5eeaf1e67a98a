/- CompRounds: steps, reckoned. -/
import Derived.Test.YtojhofdndohhdaaGreatCs
import Derived.KernelRfl
set_option linter.unusedVariables false
set_option linter.unusedSectionVars false
set_option maxRecDepth 100000
namespace Go.Proofs.YtojhofdndohhdaaGreat
open Go Go.Sh Go.Va
theorem r1_9_0 (B : Vb) (h : @okF B F1) : letI : Vl := @Vl.mk B F1 h; smRun tab 12 1000 1000 26 .nil S1_9_0 = (S1_9_0.x1 = S1_9_0.x1 ∧ reflT S1_9_0.t1) := by kernel_rfl
theorem o1_9_0 (B : Vb) (h : @okF B F1) (G : Gd) (hg : ¬ G.g) : @SmOk B G Tryz.prog 26 S1_9_0 := by
  letI : Vl := @Vl.mk B F1 h
  exact sm_ok tab_ok (by kernel_rfl) (by kernel_rfl) (r1_9_0 B h) G hg
theorem r1_9_1 (B : Vb) (h : @okF B F1) : letI : Vl := @Vl.mk B F1 h; smRun tab 12 1000 1000 26 .nil S1_9_1 = (S1_9_1.x1 = S1_9_1.x1 ∧ reflT S1_9_1.t1) := by kernel_rfl
theorem o1_9_1 (B : Vb) (h : @okF B F1) (G : Gd) (hg : ¬ G.g) : @SmOk B G Tryz.prog 26 S1_9_1 := by
  letI : Vl := @Vl.mk B F1 h
  exact sm_ok tab_ok (by kernel_rfl) (by kernel_rfl) (r1_9_1 B h) G hg
theorem r1_9_2 (B : Vb) (h : @okF B F1) : letI : Vl := @Vl.mk B F1 h; smRun tab 12 1000 1000 26 .nil S1_9_2 = (S1_9_2.x1 = S1_9_2.x1 ∧ reflT S1_9_2.t1) := by kernel_rfl
theorem o1_9_2 (B : Vb) (h : @okF B F1) (G : Gd) (hg : ¬ G.g) : @SmOk B G Tryz.prog 26 S1_9_2 := by
  letI : Vl := @Vl.mk B F1 h
  exact sm_ok tab_ok (by kernel_rfl) (by kernel_rfl) (r1_9_2 B h) G hg
theorem r1_9_3 (B : Vb) (h : @okF B F1) : letI : Vl := @Vl.mk B F1 h; smRun tab 12 1000 1000 26 .nil S1_9_3 = (S1_9_3.x1 = S1_9_3.x1 ∧ reflT S1_9_3.t1) := by kernel_rfl
theorem o1_9_3 (B : Vb) (h : @okF B F1) (G : Gd) (hg : ¬ G.g) : @SmOk B G Tryz.prog 26 S1_9_3 := by
  letI : Vl := @Vl.mk B F1 h
  exact sm_ok tab_ok (by kernel_rfl) (by kernel_rfl) (r1_9_3 B h) G hg
theorem r1_9_4 (B : Vb) (h : @okF B F1) : letI : Vl := @Vl.mk B F1 h; smRun tab 12 1000 1000 26 .nil S1_9_4 = (S1_9_4.x1 = S1_9_4.x1 ∧ reflT S1_9_4.t1) := by kernel_rfl
theorem o1_9_4 (B : Vb) (h : @okF B F1) (G : Gd) (hg : ¬ G.g) : @SmOk B G Tryz.prog 26 S1_9_4 := by
  letI : Vl := @Vl.mk B F1 h
  exact sm_ok tab_ok (by kernel_rfl) (by kernel_rfl) (r1_9_4 B h) G hg
theorem r1_9_5 (B : Vb) (h : @okF B F1) : letI : Vl := @Vl.mk B F1 h; smRun tab 12 1000 1000 26 .nil S1_9_5 = (S1_9_5.x1 = S1_9_5.x1 ∧ reflT S1_9_5.t1) := by kernel_rfl
theorem o1_9_5 (B : Vb) (h : @okF B F1) (G : Gd) (hg : ¬ G.g) : @SmOk B G Tryz.prog 26 S1_9_5 := by
  letI : Vl := @Vl.mk B F1 h
  exact sm_ok tab_ok (by kernel_rfl) (by kernel_rfl) (r1_9_5 B h) G hg
theorem r3_9_0 (B : Vb) (h : @okF B F3) : letI : Vl := @Vl.mk B F3 h; smRun tab 12 1000 1000 26 .nil S3_9_0 = (S3_9_0.x1 = S3_9_0.x1 ∧ reflT S3_9_0.t1) := by kernel_rfl
theorem o3_9_0 (B : Vb) (h : @okF B F3) (G : Gd) (hg : ¬ G.g) : @SmOk B G Tryz.prog 26 S3_9_0 := by
  letI : Vl := @Vl.mk B F3 h
  exact sm_ok tab_ok (by kernel_rfl) (by kernel_rfl) (r3_9_0 B h) G hg
theorem r3_9_1 (B : Vb) (h : @okF B F3) : letI : Vl := @Vl.mk B F3 h; smRun tab 12 1000 1000 26 .nil S3_9_1 = (S3_9_1.x1 = S3_9_1.x1 ∧ reflT S3_9_1.t1) := by kernel_rfl
theorem o3_9_1 (B : Vb) (h : @okF B F3) (G : Gd) (hg : ¬ G.g) : @SmOk B G Tryz.prog 26 S3_9_1 := by
  letI : Vl := @Vl.mk B F3 h
  exact sm_ok tab_ok (by kernel_rfl) (by kernel_rfl) (r3_9_1 B h) G hg
theorem r3_9_2 (B : Vb) (h : @okF B F3) : letI : Vl := @Vl.mk B F3 h; smRun tab 12 1000 1000 26 .nil S3_9_2 = (S3_9_2.x1 = S3_9_2.x1 ∧ reflT S3_9_2.t1) := by kernel_rfl
theorem o3_9_2 (B : Vb) (h : @okF B F3) (G : Gd) (hg : ¬ G.g) : @SmOk B G Tryz.prog 26 S3_9_2 := by
  letI : Vl := @Vl.mk B F3 h
  exact sm_ok tab_ok (by kernel_rfl) (by kernel_rfl) (r3_9_2 B h) G hg
theorem r3_9_3 (B : Vb) (h : @okF B F3) : letI : Vl := @Vl.mk B F3 h; smRun tab 12 1000 1000 26 .nil S3_9_3 = (S3_9_3.x1 = S3_9_3.x1 ∧ reflT S3_9_3.t1) := by kernel_rfl
theorem o3_9_3 (B : Vb) (h : @okF B F3) (G : Gd) (hg : ¬ G.g) : @SmOk B G Tryz.prog 26 S3_9_3 := by
  letI : Vl := @Vl.mk B F3 h
  exact sm_ok tab_ok (by kernel_rfl) (by kernel_rfl) (r3_9_3 B h) G hg
theorem r3_9_4 (B : Vb) (h : @okF B F3) : letI : Vl := @Vl.mk B F3 h; smRun tab 12 1000 1000 26 .nil S3_9_4 = (S3_9_4.x1 = S3_9_4.x1 ∧ reflT S3_9_4.t1) := by kernel_rfl
theorem o3_9_4 (B : Vb) (h : @okF B F3) (G : Gd) (hg : ¬ G.g) : @SmOk B G Tryz.prog 26 S3_9_4 := by
  letI : Vl := @Vl.mk B F3 h
  exact sm_ok tab_ok (by kernel_rfl) (by kernel_rfl) (r3_9_4 B h) G hg
theorem r3_9_5 (B : Vb) (h : @okF B F3) : letI : Vl := @Vl.mk B F3 h; smRun tab 12 1000 1000 26 .nil S3_9_5 = (S3_9_5.x1 = S3_9_5.x1 ∧ reflT S3_9_5.t1) := by kernel_rfl
theorem o3_9_5 (B : Vb) (h : @okF B F3) (G : Gd) (hg : ¬ G.g) : @SmOk B G Tryz.prog 26 S3_9_5 := by
  letI : Vl := @Vl.mk B F3 h
  exact sm_ok tab_ok (by kernel_rfl) (by kernel_rfl) (r3_9_5 B h) G hg
end Go.Proofs.YtojhofdndohhdaaGreat
